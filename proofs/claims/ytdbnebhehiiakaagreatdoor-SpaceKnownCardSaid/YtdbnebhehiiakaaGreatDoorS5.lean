/- Lemmas and contracts, each under its own condition: space: cell, Check: contracts. space.Check: the contract. -/
import Derived.Deep.RegionHeld3
import Derived.IntWalk
import Derived.Test.YtdbnebhehiiakaaGreatDoorS4
import Derived.Test.YtdbnebhehiiakaaGreatDoorV2
namespace Go.Proofs.YtdbnebhehiiakaaGreatDoor
open Go.RowKit
theorem cell_shape (d:List DimT) (a:List AttrT) (c:CellT) (v u v1 v2:Value) (w:World) (hd:Dims w v d) (ha:Attrs w u a) (h1:Ints w v1 c.co) (h2:Vals w v2 c.vals) (h:c.co.length ≠ d.length ∨ c.vals.length ≠ a.length) :
  Calls Tryz.prog 69 #[v,u,.agg #[v1,v2]] w (RetV' (.int .i64 13) w):=by
 obtain ⟨p1,cap1,rfl,c1,c1'⟩:=hd.shape
 obtain ⟨p2,cap2,rfl,c2,c2'⟩:=ha.shape
 obtain ⟨p3,cap3,rfl,c3,c3'⟩:=h1.shape
 obtain ⟨p4,cap4,rfl,c4,c4'⟩:=h2.shape
 have h':¬ ((c.co.length:Int)=d.length) ∨ ((c.co.length=d.length)∧¬ ((c.vals.length:Int)=a.length)):=by omega
 clear hd ha h1 h2 h
 rcases h' with h' | ⟨h',h''⟩
 ·go_enter Tryz.func69,Tryz.ntmps69
  go_wp2
  go_ret
  exact ⟨rfl,below_alloc _ _⟩
 ·simp only [h']
  clear h'
  go_enter Tryz.func69,Tryz.ntmps69
  go_wp2
  go_ret
  exact ⟨rfl,below_alloc _ _⟩
theorem cell_range (d:List DimT) (a:List AttrT) (c:CellT) (v u v1 v2:Value) (w:World) (hd:Dims w v d) (ha:Attrs w u a) (h1:Ints w v1 c.co) (h2:Vals w v2 c.vals) (h:c.co.length=d.length) (h':c.vals.length=a.length) (ho:ofL d c.co=false) :
  Calls Tryz.prog 69 #[v,u,.agg #[v1,v2]] w (RetV' (.int .i64 3) w):=by
 have C:Hid (∀ w1,Below w.heap.size w w1→Calls Tryz.prog 50 #[v,v1] w1 (RetV' (.bool (ofB d c.co)) w1)):=fun w1 hb => ofD_any d c.co v v1 w1 (hd.later DimR.lasts hb) (h1.later IntR.lasts hb)
 rw [show ofB d c.co=false from by unfold ofB; rw [ho,Bool.and_false]] at C
 obtain ⟨p1,cap1,rfl,c1,c1'⟩:=hd.shape
 obtain ⟨p2,cap2,rfl,c2,c2'⟩:=ha.shape
 obtain ⟨p3,cap3,rfl,c3,c3'⟩:=h1.shape
 obtain ⟨p4,cap4,rfl,c4,c4'⟩:=h2.shape
 simp only [h,h'] at C ⊢
 clear hd ha h1 h2 h h' ho c3 c4
 go_enter Tryz.func69,Tryz.ntmps69
 go_wp2_with fail
 refine (C.out _ (below_alloc _ _)).mono ?_
 rintro e w1 ⟨rfl,hb⟩
 have HB:=Lib.hid (below_keep (below_alloc _ _) hb)
 clear hb C
 go_wp2
 go_ret
 exact ⟨rfl,HB.out⟩
theorem fitsL_drop {a:List AttrT} {l:List Va} {i:Nat} {x:AttrT} {y:Va} (hx:a[i]? = some x) (hy:l[i]? = some y):fitsL (a.drop i) (l.drop i)=if fitsV y x.ty=false then false else fitsL (a.drop (i+1)) (l.drop (i+1)):=by
 rw [drop_cons hx,drop_cons hy,fitsL]
set_option maxHeartbeats 3200000 in
set_option maxRecDepth 100000 in
theorem cell_core (d:List DimT) (a:List AttrT) (c:CellT) (v u v1 v2:Value) (w:World) (hd:Dims w v d) (ha:Attrs w u a) (h1:Ints w v1 c.co) (h2:Vals w v2 c.vals) (h:c.co.length=d.length) (h':c.vals.length=a.length) (ho:ofL d c.co=true) :
  Calls Tryz.prog 69 #[v,u,.agg #[v1,v2]] w (RetV' (.int .i64 (if fitsL a c.vals=false then 12 else 0)) w):=by
 have C:Hid (∀ w1,Below w.heap.size w w1→Calls Tryz.prog 50 #[v,v1] w1 (RetV' (.bool (ofB d c.co)) w1)):=fun w1 hb => ofD_any d c.co v v1 w1 (hd.later DimR.lasts hb) (h1.later IntR.lasts hb)
 rw [show ofB d c.co=true from by unfold ofB; rw [ho,decide_eq_true h]; rfl] at C
 have HA:=Lib.hid ha
 have HV:=Lib.hid h2
 have HL:=Lib.hid h'
 have hla:=ha.len
 obtain ⟨p1,cap1,rfl,c1,c1'⟩:=hd.shape
 obtain ⟨p2,cap2,rfl,c2,c2'⟩:=ha.shape
 obtain ⟨p3,cap3,rfl,c3,c3'⟩:=h1.shape
 obtain ⟨p4,cap4,rfl,c4,c4'⟩:=h2.shape
 obtain ⟨R,hR⟩:∃ R:Int,R=if fitsL a c.vals=false then 12 else 0:=⟨_,rfl⟩
 rw [← hR]
 have HR:=Lib.hid hR
 simp only [h,h'] at C HV ⊢
 clear hd ha h1 h2 h h' ho c3 c4 hR
 go_enter Tryz.func69,Tryz.ntmps69
 go_wp2_with fail
 refine (C.out _ (below_alloc _ _)).mono ?_
 rintro e w1 ⟨rfl,hb⟩
 have HB:=Lib.hid (below_keep (below_alloc _ _) hb)
 have hc1:w1.cell? ⟨w.heap.size,1,none⟩=some (.slice p4 a.length cap4):=by
  rw [hb.cell (p:=⟨w.heap.size,1,none⟩) (by simp),World.cell?_alloc_at _ _ _ _ rfl]; rfl
 clear hb C
 go_wp2
 clear hc1
 go_loopw [31] (fun iv wr => ∃ i:Nat,i≤a.length∧iv=.int .i64 (i:Nat)∧Hid (fitsL (a.drop i) (c.vals.drop i)=fitsL a c.vals)∧Below w.heap.size w wr) (fun iv _ => a.length - (intOf iv).toNat)
 case atStart => exact ⟨0,Nat.zero_le _,rfl,rfl,HB.out⟩
 case round =>
  obtain ⟨i,hi,rfl,HN,hb⟩:=hrel
  have HBR:=Lib.hid hb
  have HAW:=Lib.hid (HA.out.later AttrR.lasts hb)
  have HVW:=Lib.hid (HV.out.later ValR.lasts hb)
  by_cases hlt:i<a.length
  ·obtain ⟨g,o,x,ea,hx,hr⟩:=HAW.out.at i hlt
   obtain ⟨g',o',y,ea',hy,hr'⟩:=HVW.out.at i (by rw [HL.out]; exact hlt)
   subst ea ea'
   have hn:=HN.out
   rw [fitsL_drop hx hy] at hn
   have HNN:=Lib.hid hn
   have HGL:=Lib.hid (World.block_lt_of_cell? _ _ hr.ty)
   have HX1:=Lib.hid hr.ty
   obtain ⟨y0,y1,y2,y3⟩:=hr'
   obtain ⟨nm,ty⟩:=x
   obtain ⟨yk,yn,yd,ys⟩:=y
   simp only at y0 y1 y2 y3 HX1
   have CF:=Lib.hid (fun w1 => fits_any ⟨yk,yn,yd,ys⟩ ty w1)
   generalize hf:fitsV ⟨yk,yn,yd,ys⟩ ty=f at CF HNN
   have HF:=Lib.hid hf
   obtain ⟨W,hW⟩:∃ W,W=wr.alloc (.cells #[.int .i64 yk,.int .i64 yn,.int .i64 yd,.string ⟨ys.toArray⟩] 59):=⟨_,rfl⟩
   have K:Hid (∀ w',Below W.heap.size W w'→w'.cell? ⟨wr.heap.size,0,none⟩=some (.int .i64 yk)∧w'.cell? ⟨wr.heap.size,1,none⟩=some (.int .i64 yn)∧w'.cell? ⟨wr.heap.size,2,none⟩=some (.int .i64 yd)∧w'.cell? ⟨wr.heap.size,3,none⟩=some (.string ⟨ys.toArray⟩)∧w'.cell? ⟨g,o+i * 2+1,none⟩=some (.int .i64 ty)∧Below W.heap.size W w'):=fun w' hb => by
    have hs:W.heap.size=wr.heap.size+1:=by rw [hW]; simp
    have hc:∀ j,w'.cell? ⟨wr.heap.size,j,none⟩=W.cell? ⟨wr.heap.size,j,none⟩:=fun j => hb.cell (p:=⟨wr.heap.size,j,none⟩) (by rw [hs]; exact Nat.lt_succ_self _)
    refine ⟨?_,?_,?_,?_,?_,hb⟩
    ·rw [hc,hW,World.cell?_alloc_at _ _ _ _ rfl]; rfl
    ·rw [hc,hW,World.cell?_alloc_at _ _ _ _ rfl]; rfl
    ·rw [hc,hW,World.cell?_alloc_at _ _ _ _ rfl]; rfl
    ·rw [hc,hW,World.cell?_alloc_at _ _ _ _ rfl]; rfl
    ·have h3:=cell_later HX1.out (below_alloc wr (.cells #[.int .i64 yk,.int .i64 yn,.int .i64 yd,.string ⟨ys.toArray⟩] 59))
     rw [← hW] at h3
     exact cell_later h3 hb
   have HBW:Hid (Below w.heap.size w W):=by show Below _ _ _; rw [hW]; exact below_keep HBR.out (below_alloc _ _)
   clear hb hx hy hn hf hr
   go_wp2
   rw [← hW]
   clear hW
   go_region_held3 (fun w' => w'.cell? ⟨wr.heap.size,0,none⟩=some (.int .i64 yk)∧w'.cell? ⟨wr.heap.size,1,none⟩=some (.int .i64 yn)∧w'.cell? ⟨wr.heap.size,2,none⟩=some (.int .i64 yd)∧w'.cell? ⟨wr.heap.size,3,none⟩=some (.string ⟨ys.toArray⟩)∧w'.cell? ⟨g,o+i * 2+1,none⟩=some (.int .i64 ty)∧Below W.heap.size W w')
    (first | exact K.out _ (Below.refl _ _).drew | exact K.out _ (by assumption))
    ((go_at_call 109; refine (CF.out _).mono ?_; rintro e w2 ⟨rfl,hb2⟩; have hb3:Below W.heap.size W w2:=below_keep (Below.refl _ _).drew hb2))
   have HB3:=Lib.hid (below_keep HBW.out hb3)
   clear hb2 hb3 CF K
   cases f with
   | false =>
    have HRR:Hid (R=12):=by show _=_; rw [HR.out,← HNN.out,if_pos rfl]; rfl
    go_wp2
    go_ret
    rw [HRR.out]
    exact ⟨rfl,HB3.out⟩
   | true =>
    have HRR:Hid (fitsL (a.drop (i+1)) (c.vals.drop (i+1))=fitsL a c.vals):=by show _=_; rw [← HNN.out,if_neg (by simp)]
    go_wp2
    exact ⟨⟨i+1,by omega,by go_num,HRR,HB3.out⟩,by show a.length - _<a.length - _; simp [intOf]; omega⟩
  ·obtain rfl:i=a.length:=by omega
   have hn:=HN.out
   rw [List.drop_length,fitsL] at hn
   ·have HRR:Hid (R=0):=by show _=_; rw [HR.out,← hn]; rfl
    clear hb hn HN
    go_wp2
    go_ret
    rw [HRR.out]
    exact ⟨rfl,HBR.out⟩
   ·intro _ _ _ _ h; cases h
theorem cell_any (d:List DimT) (a:List AttrT) (c:CellT) (v u v1 v2:Value) (w:World) (hd:Dims w v d) (ha:Attrs w u a) (h1:Ints w v1 c.co) (h2:Vals w v2 c.vals) :
  Calls Tryz.prog 69 #[v,u,.agg #[v1,v2]] w (RetV' (.int .i64 (cellE d a c)) w):=by
 unfold cellE
 by_cases h:c.co.length ≠ d.length ∨ c.vals.length ≠ a.length
 ·rw [if_pos h]
  exact cell_shape d a c v u v1 v2 w hd ha h1 h2 h
 ·rw [if_neg h]
  have e1:c.co.length=d.length:=by
   by_cases e:c.co.length=d.length
   ·exact e
   ·exact absurd (.inl e) h
  have e2:c.vals.length=a.length:=by
   by_cases e:c.vals.length=a.length
   ·exact e
   ·exact absurd (.inr e) h
  cases ho:ofL d c.co with
  | false =>
   rw [if_pos rfl]
   exact cell_range d a c v u v1 v2 w hd ha h1 h2 e1 e2 ho
  | true =>
   rw [if_neg (by simp)]
   exact cell_core d a c v u v1 v2 w hd ha h1 h2 e1 e2 ho
structure ArrR (w:World) (vd va vc:Value) (x:ArrT):Prop where
 dims:Dims w vd x.dims
 attrs:Attrs w va x.attrs
 cells:CellsA w vc x.cells
theorem ArrR.later {w w':World} {vd va vc:Value} {x:ArrT} (h:ArrR w vd va vc x) (hb:Below w.heap.size w w'):ArrR w' vd va vc x:=⟨h.dims.later DimR.lasts hb,h.attrs.later AttrR.lasts hb,h.cells.later CellR.lasts hb⟩
theorem checkA_bad (x:ArrT) (vd va vc:Value) (w:World) (hx:ArrR w vd va vc x) (hs:StrD x.dims) (hsa:StrA x.attrs) (h:schemaE x.dims x.attrs ≠ 0) :
  Calls Tryz.prog 29 #[.agg #[vd,va,vc]] w (RetV' (.int .i64 (schemaE x.dims x.attrs)) w):=by
 have C:=Lib.hid (fun w1 (hb:Below w.heap.size w w1) => schema_any x.dims x.attrs vd va w1 (hx.dims.later DimR.lasts hb) (hx.attrs.later AttrR.lasts hb) hs hsa)
 obtain ⟨p1,cap1,rfl,c1,c1'⟩:=hx.dims.shape
 obtain ⟨p2,cap2,rfl,c2,c2'⟩:=hx.attrs.shape
 obtain ⟨p3,cap3,rfl,c3,c3'⟩:=hx.cells.shape
 have hne:(schemaE x.dims x.attrs != 0)=true:=by rw [bne_iff_ne]; exact h
 generalize schemaE x.dims x.attrs=r at *
 clear hx hs hsa h
 go_enter Tryz.func29,Tryz.ntmps29
 go_wp2_with fail
 refine (C.out _ (below_alloc _ _)).mono ?_
 rintro e w1 ⟨rfl,hb⟩
 have HB:=Lib.hid (below_keep (below_alloc _ _) hb)
 clear hb C
 go_wp2
 go_ret
 exact ⟨rfl,HB.out⟩
theorem checkA_many (x:ArrT) (vd va vc:Value) (w:World) (hx:ArrR w vd va vc x) (hs:StrD x.dims) (hsa:StrA x.attrs) (h:schemaE x.dims x.attrs=0) (h2:4096<x.cells.length) :
  Calls Tryz.prog 29 #[.agg #[vd,va,vc]] w (RetV' (.int .i64 9) w):=by
 have C:=Lib.hid (fun w1 (hb:Below w.heap.size w w1) => schema_any x.dims x.attrs vd va w1 (hx.dims.later DimR.lasts hb) (hx.attrs.later AttrR.lasts hb) hs hsa)
 rw [h] at C
 have hlc:=hx.cells.len
 obtain ⟨p1,cap1,rfl,c1,c1'⟩:=hx.dims.shape
 obtain ⟨p2,cap2,rfl,c2,c2'⟩:=hx.attrs.shape
 obtain ⟨p3,cap3,rfl,c3,c3'⟩:=hx.cells.shape
 have h3:(4096:Int)<x.cells.length:=by omega
 clear hx hs hsa h h2
 go_enter Tryz.func29,Tryz.ntmps29
 go_wp2_with fail
 refine (C.out _ (below_alloc _ _)).mono ?_
 rintro e w1 ⟨rfl,hb⟩
 have HB:=Lib.hid (below_keep (below_alloc _ _) hb)
 have hc2:w1.cell? ⟨w.heap.size,2,none⟩=some (.slice p3 x.cells.length cap3):=by
  rw [hb.cell (p:=⟨w.heap.size,2,none⟩) (by simp),World.cell?_alloc_at _ _ _ _ rfl]; rfl
 clear hb C
 go_wp2
 go_ret
 exact ⟨rfl,HB.out⟩
def befC (l:List CellT) (i:Nat):Option CellT:=if i=0 then none else l[i - 1]?
theorem cells_step (d:List DimT) (a:List AttrT) {l:List CellT} {i:Nat} {c:CellT} (h:l[i]? = some c) (h0:cellE d a c=0) (hn:i=0):cellsL d a (befC l i) (l.drop i)=cellsL d a (befC l (i+1)) (l.drop (i+1)):=by
 subst hn
 rw [drop_cons h]
 unfold befC
 rw [if_pos rfl,cellsL,if_neg (by simp [h0]),if_neg (by omega),Nat.add_sub_cancel,h]
theorem cells_bad (d:List DimT) (a:List AttrT) {l:List CellT} {i:Nat} {c:CellT} (h:l[i]? = some c) (h0:cellE d a c ≠ 0):cellsL d a (befC l i) (l.drop i)=cellE d a c:=by
 rw [drop_cons h]
 unfold befC
 cases i with
 | zero => rw [if_pos rfl,cellsL,if_pos h0]
 | succ k =>
  rw [if_neg (by omega),Nat.add_sub_cancel]
  obtain ⟨b,hb⟩:∃ b,l[k]? = some b:=⟨_,List.getElem?_eq_getElem (by have:=(List.getElem?_eq_some_iff.1 h).1; omega)⟩
  rw [hb,cellsL,if_pos h0]
theorem cells_next (d:List DimT) (a:List AttrT) {l:List CellT} {k:Nat} {b c:CellT} (hb:l[k]? = some b) (h:l[k+1]? = some c) (h0:cellE d a c=0) :
  cellsL d a (befC l (k+1)) (l.drop (k+1))=if cmpI b.co c.co=0 then 5 else if cmpI b.co c.co=1 then 2 else cellsL d a (befC l (k+1+1)) (l.drop (k+1+1)):=by
 rw [drop_cons h,show befC l (k+1)=some b from by unfold befC; rw [if_neg (Nat.succ_ne_zero k),Nat.add_sub_cancel,hb],show befC l (k+1+1)=some c from by unfold befC; rw [if_neg (Nat.succ_ne_zero _),Nat.add_sub_cancel,h],cellsL,if_neg (by simp [h0])]
set_option maxHeartbeats 6400000 in
set_option maxRecDepth 100000 in
theorem checkA_core (x:ArrT) (vd va vc:Value) (w:World) (hx:ArrR w vd va vc x) (hs:StrD x.dims) (hsa:StrA x.attrs) (h:schemaE x.dims x.attrs=0) (h2:x.cells.length≤4096) :
  Calls Tryz.prog 29 #[.agg #[vd,va,vc]] w (RetV' (.int .i64 (cellsL x.dims x.attrs none x.cells)) w):=by
 have C:=Lib.hid (fun w1 (hb:Below w.heap.size w w1) => schema_any x.dims x.attrs vd va w1 (hx.dims.later DimR.lasts hb) (hx.attrs.later AttrR.lasts hb) hs hsa)
 rw [h] at C
 have CC:=Lib.hid (fun (c:CellT) (v1 v2:Value) (w1:World) (hb:Below w.heap.size w w1) (k1:Ints w1 v1 c.co) (k2:Vals w1 v2 c.vals) => cell_any x.dims x.attrs c vd va v1 v2 w1 (hx.dims.later DimR.lasts hb) (hx.attrs.later AttrR.lasts hb) k1 k2)
 have HX:=Lib.hid hx
 obtain ⟨p1,cap1,rfl,c1,c1'⟩:=hx.dims.shape
 obtain ⟨p2,cap2,rfl,c2,c2'⟩:=hx.attrs.shape
 obtain ⟨p3,cap3,rfl,c3,c3'⟩:=hx.cells.shape
 have h3:¬ ((4096:Int)<x.cells.length):=by omega
 have hlc:x.cells.length≤4096:=h2
 obtain ⟨R,hR⟩:∃ R:Int,R=cellsL x.dims x.attrs none x.cells:=⟨_,rfl⟩
 rw [← hR]
 have HR:=Lib.hid hR
 obtain ⟨W1,hW1⟩:∃ W1,W1=w.alloc (.cells #[.slice p1 x.dims.length cap1,.slice p2 x.attrs.length cap2,.slice p3 x.cells.length cap3] 26):=⟨_,rfl⟩
 have HBX:Hid (∀ w',Below W1.heap.size W1 w'→w'.cell? ⟨w.heap.size,0,none⟩=some (.slice p1 x.dims.length cap1)∧w'.cell? ⟨w.heap.size,1,none⟩=some (.slice p2 x.attrs.length cap2)∧w'.cell? ⟨w.heap.size,2,none⟩=some (.slice p3 x.cells.length cap3)):=fun w' hb => by
  have hs:W1.heap.size=w.heap.size+1:=by rw [hW1]; simp
  have hc:∀ j,w'.cell? ⟨w.heap.size,j,none⟩=W1.cell? ⟨w.heap.size,j,none⟩:=fun j => hb.cell (p:=⟨w.heap.size,j,none⟩) (by rw [hs]; exact Nat.lt_succ_self _)
  refine ⟨?_,?_,?_⟩ <;> (rw [hc,hW1,World.cell?_alloc_at _ _ _ _ rfl]; rfl)
 have HS1:Hid (W1.heap.size=w.heap.size+1):=by show _=_; rw [hW1]; simp
 have HB1:Hid (Below w.heap.size w W1):=by show Below _ _ _; rw [hW1]; exact below_alloc _ _
 clear hx hs hsa h h2 hR c1 c2
 go_enter Tryz.func29,Tryz.ntmps29
 go_wp2_with fail
 refine (C.out _ (below_alloc _ _)).mono ?_
 rintro e w2 ⟨rfl,hb⟩
 rw [← hW1] at hb
 have HB2:=Lib.hid hb
 obtain ⟨d0,d1,d2⟩:=HBX.out w2 hb
 clear hb C hW1
 go_wp2
 clear d0 d1 d2
 go_loopw [22] (fun iv wr => ∃ i:Nat,i≤x.cells.length∧iv=.int .i64 (i:Nat)∧Hid (cellsL x.dims x.attrs (befC x.cells i) (x.cells.drop i)=R)∧Below W1.heap.size W1 wr) (fun iv _ => x.cells.length - (intOf iv).toNat)
 case atStart => exact ⟨0,Nat.zero_le _,rfl,(by show _=_; rw [HR.out]; rfl),HB2.out⟩
 case round =>
  obtain ⟨i,hi,rfl,HN,hb⟩:=hrel
  have HBR:=Lib.hid hb
  obtain ⟨d0,d1,d2⟩:=HBX.out wr hb
  have HCW:=Lib.hid (HX.out.cells.later CellR.lasts (below_keep HB1.out hb))
  have hs1:w.heap.size<wr.heap.size:=by have:=hb.size; have:=HS1.out; omega
  have hs2:w.heap.size ≠ wr.heap.size:=Nat.ne_of_lt hs1
  by_cases hlt:i<x.cells.length
  ·obtain ⟨g,o,c,ea,hc,hr⟩:=HCW.out.at i hlt
   subst ea
   have HC:=Lib.hid hc
   obtain ⟨v1,v2,e1,e2,k1,k2⟩:=hr.ex
   have K1:=Lib.hid k1
   have K2:=Lib.hid k2
   obtain ⟨q1,capq1,rfl,-,-⟩:=k1.shape
   obtain ⟨q2,capq2,rfl,-,-⟩:=k2.shape
   obtain ⟨W,hW⟩:∃ W,W=wr.alloc (.cells #[.slice q1 c.co.length capq1,.slice q2 c.vals.length capq2] 62):=⟨_,rfl⟩
   have HWR:Hid (Below wr.heap.size wr W):=by show Below _ _ _; rw [hW]; exact below_alloc _ _
   have HBW:Hid (Below W1.heap.size W1 W):=below_keep HBR.out HWR.out
   have hcell:=CC.out c _ _ W (below_keep HB1.out HBW.out) (K1.out.later IntR.lasts HWR.out) (K2.out.later ValR.lasts HWR.out)
   have HCX:Hid (∀ w',Below W.heap.size W w'→w'.cell? ⟨wr.heap.size,0,none⟩=some (.slice q1 c.co.length capq1)∧w'.cell? ⟨wr.heap.size,1,none⟩=some (.slice q2 c.vals.length capq2)):=fun w' hb => by
    have hs:W.heap.size=wr.heap.size+1:=by rw [hW]; simp
    have hc:∀ j,w'.cell? ⟨wr.heap.size,j,none⟩=W.cell? ⟨wr.heap.size,j,none⟩:=fun j => hb.cell (p:=⟨wr.heap.size,j,none⟩) (by rw [hs]; exact Nat.lt_succ_self _)
    refine ⟨?_,?_⟩ <;> (rw [hc,hW,World.cell?_alloc_at _ _ _ _ rfl]; rfl)
   rw [hW] at hcell
   have CE:=Lib.hid hcell
   have hn:=HN.out
   generalize hce:cellE x.dims x.attrs c=r at CE
   have HCE:=Lib.hid hce
   clear hb hc hr k1 k2 hcell hn hce
   by_cases hz:r=0
   ·subst hz
    cases i with
    | zero =>
     simp only [Nat.zero_mul,Nat.add_zero] at e1 e2
     have HN2:=Lib.hid ((cells_step _ _ HC.out HCE.out rfl).symm.trans HN.out)
     go_wp2_with fail
     refine CE.out.mono ?_
     rintro e w3 ⟨rfl,hb3⟩
     rw [← hW] at hb3
     have HB3:=Lib.hid (below_keep HBW.out hb3)
     clear hb3 CE hW
     go_wp2
     exact ⟨⟨0+1,by omega,by go_num,HN2.out,HB3.out⟩,by show x.cells.length - _<x.cells.length - _; simp [intOf]; omega⟩
    | succ k =>
     obtain ⟨g',o',b,ea',hbk,hrb⟩:=HCW.out.at k (by omega)
     injection ea' with ea'
     injection ea' with eg eo _
     subst eg eo
     obtain ⟨u1,u2,f1,f2,m1,m2⟩:=hrb.ex
     have M1:=Lib.hid m1
     obtain ⟨q3,capq3,rfl,-,-⟩:=m1.shape
     have HNX:=Lib.hid ((cells_next _ _ hbk HC.out HCE.out).symm.trans HN.out)
     have F1:=Lib.hid f1
     clear hbk hrb f2 m1 m2 f1
     have hk0:(((k:Nat):Int)+1 == 0)=false:=by rw [beq_eq_false_iff_ne]; omega
     go_wp2_with fail
     refine CE.out.mono ?_
     rintro e w3 ⟨rfl,hb3⟩
     rw [← hW] at hb3
     have HB3:=Lib.hid hb3
     have HBA:=Lib.hid (below_keep HBW.out hb3)
     have K:Hid (∀ w',Below w3.heap.size w3 w'→w'.cell? ⟨w.heap.size,2,none⟩=some (.slice (some ⟨g,o,none⟩) x.cells.length cap3)∧w'.cell? ⟨g,o+k * 2,none⟩=some (.slice q3 b.co.length capq3)∧w'.cell? ⟨wr.heap.size,0,none⟩=some (.slice q1 c.co.length capq1)∧Below w3.heap.size w3 w'):=fun w' hb' =>
      ⟨(HBX.out w' (below_keep HBA.out hb')).2.2,cell_later F1.out (below_keep HWR.out (below_keep HB3.out hb')),(HCX.out w' (below_keep HB3.out hb')).1,hb'⟩
     have CP:Hid (∀ w',Below w3.heap.size w3 w'→Calls Tryz.prog 70 #[.slice q3 b.co.length capq3,.slice q1 c.co.length capq1] w' fun e w'' => e=.returned (.int .i64 (cmpI b.co c.co))∧w'=w''):=fun w' hb' =>
      compare_any b.co c.co _ _ w' (M1.out.later IntR.lasts (below_keep HWR.out (below_keep HB3.out hb'))) (K1.out.later IntR.lasts (below_keep HWR.out (below_keep HB3.out hb')))
     generalize cmpI b.co c.co=q at HNX CP
     clear hb3 CE hW d0 d1 d2 e1 e2 hs1 hs2
     go_wp2
     have a0:(0:Int)≤(k:Int):=by omega
     have a1:(k:Int)<(x.cells.length:Int):=by omega
     have a2:IntKind.i64.wrap (k:Int)=(k:Int):=IntWalk.i64_in _ (by omega)
     have a3:IntKind.i64.wrap ((k:Int)+1 - 1)=(k:Int):=by rw [Int.add_sub_cancel]; exact a2
     go_region_held3 (fun w' => w'.cell? ⟨w.heap.size,2,none⟩=some (.slice (some ⟨g,o,none⟩) x.cells.length cap3)∧w'.cell? ⟨g,o+k * 2,none⟩=some (.slice q3 b.co.length capq3)∧w'.cell? ⟨wr.heap.size,0,none⟩=some (.slice q1 c.co.length capq1)∧Below w3.heap.size w3 w')
      (first | exact K.out _ (Below.refl _ _).drew | exact K.out _ (by assumption))
      ((go_at_call 70; refine (CP.out _ (Below.refl _ _).drew).mono ?_; rintro e w4 ⟨rfl,rfl⟩; have hb4:Below w3.heap.size w3 w3.drew:=(Below.refl _ _).drew))
     have HB4:=Lib.hid (below_keep HB1.out (below_keep HBA.out hb4))
     have HB5:=Lib.hid (below_keep HBA.out hb4)
     clear a0 a1 a2 a3 hb4 K CP
     by_cases hq0:q=0
     ·subst hq0
      have HRR:Hid (R=5):=by show _=_; rw [← HNX.out,if_pos rfl]
      go_wp2
      go_ret
      rw [HRR.out]
      exact ⟨rfl,HB4.out⟩
     ·by_cases hq1:q=1
      ·subst hq1
       have HRR:Hid (R=2):=by show _=_; rw [← HNX.out,if_neg (by omega),if_pos rfl]
       go_wp2
       go_ret
       rw [HRR.out]
       exact ⟨rfl,HB4.out⟩
      ·have HRR:Hid (cellsL x.dims x.attrs (befC x.cells (k+1+1)) (x.cells.drop (k+1+1))=R):=by show _=_; rw [← HNX.out,if_neg hq0,if_neg hq1]
       have q0:(q == 0)=false:=by rw [beq_eq_false_iff_ne]; exact hq0
       have q1:(q == 1)=false:=by rw [beq_eq_false_iff_ne]; exact hq1
       clear hq0 hq1
       go_wp2
       exact ⟨⟨k+1+1,by omega,by go_num,HRR.out,HB5.out⟩,by show x.cells.length - _<x.cells.length - _; simp [intOf]; omega⟩
   ·have HRR:Hid (R=r):=by show _=_; rw [← HN.out,cells_bad _ _ HC.out (by rw [HCE.out]; exact hz),HCE.out]
    have hz':(r != 0)=true:=by rw [bne_iff_ne]; exact hz
    clear hz
    go_wp2_with fail
    refine CE.out.mono ?_
    rintro e w3 ⟨rfl,hb3⟩
    rw [← hW] at hb3
    have HB3:=Lib.hid (below_keep HB1.out (below_keep HBW.out hb3))
    clear hb3 CE hW
    go_wp2
    go_ret
    rw [HRR.out]
    exact ⟨rfl,HB3.out⟩
  ·obtain rfl:i=x.cells.length:=by omega
   have hn:=HN.out
   rw [List.drop_length] at hn
   have HRR:Hid (R=0):=by
    show _=_
    rw [← hn]
    cases befC x.cells x.cells.length <;> rfl
   have HB3:=Lib.hid (below_keep HB1.out HBR.out)
   clear hb hn HN
   go_wp2
   go_ret
   rw [HRR.out]
   exact ⟨rfl,HB3.out⟩
theorem checkA_any (x:ArrT) (vd va vc:Value) (w:World) (hx:ArrR w vd va vc x) (hs:StrD x.dims) (hsa:StrA x.attrs) :
  Calls Tryz.prog 29 #[.agg #[vd,va,vc]] w (RetV' (.int .i64 (checkE x)) w):=by
 unfold checkE
 by_cases h:schemaE x.dims x.attrs=0
 ·rw [if_neg (by simp [h])]
  by_cases h2:4096<x.cells.length
  ·rw [if_pos h2]
   exact checkA_many x vd va vc w hx hs hsa h h2
  ·rw [if_neg h2]
   exact checkA_core x vd va vc w hx hs hsa h (by omega)
 ·rw [if_pos h]
  exact checkA_bad x vd va vc w hx hs hsa h
end Go.Proofs.YtdbnebhehiiakaaGreatDoor
