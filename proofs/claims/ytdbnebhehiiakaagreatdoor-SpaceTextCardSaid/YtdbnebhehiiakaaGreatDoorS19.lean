/- Lemmas and contracts, each under its own condition: The reference of layer 2, contract: Cell. The reference of layer 2, contract: Check. -/
import Derived.BigQuiet
import Derived.IntWalk
import Derived.Test.YtdbnebhehiiakaaGreatDoorS18
import Derived.Test.YtdbnebhehiiakaaGreatDoorS5
import Derived.Test.YtdbnebhehiiakaaGreatDoorS50
import Derived.Test.YtdbnebhehiiakaaGreatDoorS58
namespace Go.Proofs.YtdbnebhehiiakaaGreatDoor
open Go.RowKit
theorem rcell_shape (d:List DimT) (a:List AttrT) (c:CellT) (v u v1 v2:Value) (w:World) (hd:Dims w v d) (ha:Attrs w u a) (h1:Ints w v1 c.co) (h2:Vals w v2 c.vals) (h:c.co.length ≠ d.length ∨ c.vals.length ≠ a.length) :
  Calls Tryz.prog 80 #[v,u,.agg #[v1,v2]] w (RetV' (.int .i64 13) w):=by
 obtain ⟨p,cap,rfl,c1,c2⟩:=hd.shape
 obtain ⟨p',cap',rfl,c1',c2'⟩:=ha.shape
 obtain ⟨q,capq,rfl,e1,e2⟩:=h1.shape
 obtain ⟨q',capq',rfl,e1',e2'⟩:=h2.shape
 clear hd ha h1 h2
 by_cases h0:c.co.length=d.length
 ·have h5:((c.co.length:Int) != d.length)=false:=by rw [bne_eq_false_iff_eq]; omega
  have h6:((c.vals.length:Int) != a.length)=true:=by rw [bne_iff_ne]; rcases h with h | h <;> omega
  clear h h0
  go_enter Tryz.func80,Tryz.ntmps80
  go_wp2
  go_ret
  exact ⟨rfl,below_alloc _ _⟩
 ·have h5:((c.co.length:Int) != d.length)=true:=by rw [bne_iff_ne]; omega
  clear h h0
  go_enter Tryz.func80,Tryz.ntmps80
  go_wp2
  go_ret
  exact ⟨rfl,below_alloc _ _⟩
set_option maxHeartbeats 3200000 in
set_option maxRecDepth 100000 in
theorem rcell_range (d:List DimT) (a:List AttrT) (c:CellT) (v u v1 v2:Value) (w:World) (hd:Dims w v d) (ha:Attrs w u a) (h1:Ints w v1 c.co) (h2:Vals w v2 c.vals) (h:c.co.length=d.length) (h':c.vals.length=a.length) (ho:ofL d c.co=false) :
  Calls Tryz.prog 80 #[v,u,.agg #[v1,v2]] w (RetV' (.int .i64 3) w):=by
 have C:Hid (∀ w1,Below w.heap.size w w1→Calls Tryz.prog 126 #[v,v1] w1 (RetV' (.bool (ofB d c.co)) w1)):=fun w1 hb => rof_any d c.co v v1 w1 (hd.later DimR.lasts hb) (h1.later IntR.lasts hb)
 rw [show ofB d c.co=false from by unfold ofB; rw [ho,Bool.and_false]] at C
 obtain ⟨p,cap,rfl,c1,c2⟩:=hd.shape
 obtain ⟨p',cap',rfl,c1',c2'⟩:=ha.shape
 obtain ⟨q,capq,rfl,e1,e2⟩:=h1.shape
 obtain ⟨q',capq',rfl,e1',e2'⟩:=h2.shape
 simp only [h,h'] at C ⊢
 clear hd ha h1 h2 h h' ho e1 e1'
 go_enter Tryz.func80,Tryz.ntmps80
 go_wp2_with fail
 refine (C.out _ (below_alloc _ _)).mono ?_
 rintro e w1 ⟨rfl,hb⟩
 have HB:=Lib.hid (below_keep (below_alloc w _) hb)
 clear hb C
 go_wp2
 go_ret
 exact ⟨rfl,HB.out⟩
def StrV (l:List Va):Prop:=∀ x ∈ l,x.str.length≤9223372036854775807
set_option maxHeartbeats 3200000 in
set_option maxRecDepth 100000 in
theorem rcell_core (d:List DimT) (a:List AttrT) (c:CellT) (v u v1 v2:Value) (w:World) (hd:Dims w v d) (ha:Attrs w u a) (h1:Ints w v1 c.co) (h2:Vals w v2 c.vals) (h:c.co.length=d.length) (h':c.vals.length=a.length) (ho:ofL d c.co=true) (hsv:StrV c.vals) :
  Calls Tryz.prog 80 #[v,u,.agg #[v1,v2]] w (RetV' (.int .i64 (if fitsL a c.vals=false then 12 else 0)) w):=by
 have C:Hid (∀ w1,Below w.heap.size w w1→Calls Tryz.prog 126 #[v,v1] w1 (RetV' (.bool (ofB d c.co)) w1)):=fun w1 hb => rof_any d c.co v v1 w1 (hd.later DimR.lasts hb) (h1.later IntR.lasts hb)
 rw [show ofB d c.co=true from by unfold ofB; rw [ho,decide_eq_true h]; rfl] at C
 have HA:=Lib.hid ha
 have HV:=Lib.hid h2
 have HL:=Lib.hid h'
 have HSV:=Lib.hid hsv
 obtain ⟨R,hR⟩:∃ R,R=fitsL a c.vals:=⟨_,rfl⟩
 rw [← hR]
 have HR0:=Lib.hid hR
 obtain ⟨RV,hRV⟩:∃ RV:Int,RV=if R=false then 12 else 0:=⟨_,rfl⟩
 rw [← hRV]
 have HRV:=Lib.hid hRV
 obtain ⟨p,cap,rfl,c1,c2⟩:=hd.shape
 obtain ⟨p',cap',rfl,c1',c2'⟩:=ha.shape
 obtain ⟨q,capq,rfl,e1,e2⟩:=h1.shape
 obtain ⟨q',capq',rfl,e1',e2'⟩:=h2.shape
 simp only [h,h'] at C HV e1 e1' ⊢
 obtain ⟨W1,hW1⟩:∃ W1,W1=w.alloc (.cells #[.slice q d.length capq,.slice q' a.length capq'] 62):=⟨_,rfl⟩
 have HB1:Hid (Below w.heap.size w W1):=by show Below _ _ _; rw [hW1]; exact below_alloc _ _
 have HC1:Hid (W1.cell? ⟨w.heap.size,1,none⟩=some (.slice q' a.length capq')):=by show _=_; rw [hW1,World.cell?_alloc_at _ _ _ _ rfl]; rfl
 clear hd ha h1 h2 h h' ho hsv hR hRV
 go_enter Tryz.func80,Tryz.ntmps80
 go_wp2_with fail
 refine (C.out _ (below_alloc _ _)).mono ?_
 rintro e w2 ⟨rfl,hb⟩
 rw [← hW1] at hb
 have HB2:=Lib.hid hb
 clear hb C hW1
 go_wp2
 go_loopw [7] (fun iv wr => ∃ i:Nat,i≤a.length∧iv=.int .i64 (i:Nat)∧Hid (fitsL (a.drop i) (c.vals.drop i)=R)∧Below W1.heap.size W1 wr) (fun iv _ => a.length - (intOf iv).toNat)
 case atStart => exact ⟨0,Nat.zero_le _,rfl,HR0.out.symm,HB2.out⟩
 case round =>
  obtain ⟨i,hi,rfl,HN,hb⟩:=hrel
  have HBX:=Lib.hid hb
  have HBW:=Lib.hid (below_keep HB1.out hb)
  clear hb
  by_cases hlt:i<a.length
  ·obtain ⟨g,o,x,ea,hx,hr⟩:=(HA.out.later AttrR.lasts HBW.out).at i hlt
   obtain ⟨g',o',y,ea',hy,hr'⟩:=(HV.out.later ValR.lasts HBW.out).at i (by rw [HL.out]; exact hlt)
   subst ea ea'
   have hn:=HN.out
   rw [fitsL_drop hx hy] at hn
   have HNN:=Lib.hid hn
   have CF:=Lib.hid (fun w1 => rfits_any y x.ty w1 (HSV.out y (List.mem_of_getElem? hy)))
   have HI1:Hid (i+1≤a.length):=hlt
   have HI2:Hid (a.length - (i+1)<a.length - i):=by show _<_; omega
   have ib0:(0:Int)≤(i:Int):=by omega
   have ib1:(i:Int)<(a.length:Int):=by omega
   have hb1:=cell_later HC1.out HBX.out
   have hx1:=hr.ty
   obtain ⟨y0,y1,y2,y3⟩:=hr'
   obtain ⟨nx,ty⟩:=x
   obtain ⟨kd,nu,de,st⟩:=y
   obtain ⟨F,hF⟩:∃ F,F=fitsV ⟨kd,nu,de,st⟩ ty:=⟨_,rfl⟩
   simp only at hx1 y0 y1 y2 y3 CF HNN
   rw [← hF] at CF HNN
   have K:Hid (∀ w',Below wr.heap.size wr w'→w'.cell? ⟨w.heap.size,1,none⟩=some (.slice (some ⟨g',o',none⟩) a.length capq')∧w'.cell? ⟨g,o+i * 2+1,none⟩=some (.int .i64 ty)∧w'.cell? ⟨g',o'+i * 4,none⟩=some (.int .i64 kd)∧w'.cell? ⟨g',o'+i * 4+1,none⟩=some (.int .i64 nu)∧w'.cell? ⟨g',o'+i * 4+2,none⟩=some (.int .i64 de)∧w'.cell? ⟨g',o'+i * 4+3,none⟩=some (.string ⟨st.toArray⟩)∧Below wr.heap.size wr w') :=
    fun w' h => ⟨cell_later hb1 h,cell_later hx1 h,cell_later y0 h,cell_later y1 h,cell_later y2 h,cell_later y3 h,h⟩
   clear hr hx hy hn HN hF hb1 hx1 y0 y1 y2 y3
   go_wp2_with fail
   go_region_held3 (fun w' => w'.cell? ⟨w.heap.size,1,none⟩=some (.slice (some ⟨g',o',none⟩) a.length capq')∧w'.cell? ⟨g,o+i * 2+1,none⟩=some (.int .i64 ty)∧w'.cell? ⟨g',o'+i * 4,none⟩=some (.int .i64 kd)∧w'.cell? ⟨g',o'+i * 4+1,none⟩=some (.int .i64 nu)∧w'.cell? ⟨g',o'+i * 4+2,none⟩=some (.int .i64 de)∧w'.cell? ⟨g',o'+i * 4+3,none⟩=some (.string ⟨st.toArray⟩)∧Below wr.heap.size wr w')
    (first | exact K.out _ (Below.refl _ _).drew | exact K.out _ (by assumption))
    ((go_at_call 127; refine (CF.out _).mono ?_; rintro e w3 ⟨rfl,hb2⟩; have hb3:Below wr.heap.size wr w3:=below_keep (Below.refl _ _).drew hb2))
   have HB3:=Lib.hid (HBX.out.trans (hb3.mono HBX.out.size))
   clear hb2 hb3 CF
   cases F with
   | false =>
    have HE:Hid (R=false):=by have:=HNN.out; rw [if_pos rfl] at this; exact this.symm
    go_wp2
    go_ret
    rw [HRV.out,HE.out,if_pos rfl]
    exact ⟨rfl,below_keep HB1.out HB3.out⟩
   | true =>
    have HE:Hid (fitsL (a.drop (i+1)) (c.vals.drop (i+1))=R):=by have:=HNN.out; rw [if_neg (by decide)] at this; exact this
    go_wp2
    exact ⟨⟨i+1,HI1.out,by go_num,HE.out,HB3.out⟩,HI2.out⟩
  ·obtain rfl:i=a.length:=by omega
   have hn:=HN.out
   rw [List.drop_length,fitsL] at hn
   ·have HNN:=Lib.hid hn
    clear hn HN
    go_wp2
    go_ret
    rw [HRV.out,← HNN.out,if_neg (by decide)]
    exact ⟨rfl,HBW.out⟩
   ·intro _ _ _ _ h; cases h
theorem rcell_any (d:List DimT) (a:List AttrT) (c:CellT) (v u v1 v2:Value) (w:World) (hd:Dims w v d) (ha:Attrs w u a) (h1:Ints w v1 c.co) (h2:Vals w v2 c.vals) (hsv:StrV c.vals) :
  Calls Tryz.prog 80 #[v,u,.agg #[v1,v2]] w (RetV' (.int .i64 (cellE d a c)) w):=by
 unfold cellE
 by_cases h:c.co.length ≠ d.length ∨ c.vals.length ≠ a.length
 ·rw [if_pos h]
  exact rcell_shape d a c v u v1 v2 w hd ha h1 h2 h
 ·rw [if_neg h]
  have e1:c.co.length=d.length:=by
   by_cases e:c.co.length=d.length
   ·exact e
   ·exact absurd (.inl e) h
  have e2:c.vals.length=a.length:=by
   by_cases e:c.vals.length=a.length
   ·exact e
   ·exact absurd (.inr e) h
  cases ho:ofL d c.co with
  | false =>
   rw [if_pos rfl]
   exact rcell_range d a c v u v1 v2 w hd ha h1 h2 e1 e2 ho
  | true =>
   rw [if_neg (by simp)]
   exact rcell_core d a c v u v1 v2 w hd ha h1 h2 e1 e2 ho hsv
theorem rarr_bad (x:ArrT) (vd va vc:Value) (w:World) (hx:ArrR w vd va vc x) (hs:StrD x.dims) (hsa:StrA x.attrs) (h:schemaE x.dims x.attrs ≠ 0) :
  Calls Tryz.prog 36 #[.agg #[vd,va,vc]] w (RetV' (.int .i64 (schemaE x.dims x.attrs)) w):=by
 have C:=Lib.hid (fun w1 (hb:Below w.heap.size w w1) => rschema_any x.dims x.attrs vd va w1 (hx.dims.later DimR.lasts hb) (hx.attrs.later AttrR.lasts hb) hs hsa)
 obtain ⟨p1,cap1,rfl,c1,c1'⟩:=hx.dims.shape
 obtain ⟨p2,cap2,rfl,c2,c2'⟩:=hx.attrs.shape
 obtain ⟨p3,cap3,rfl,c3,c3'⟩:=hx.cells.shape
 have hne:(schemaE x.dims x.attrs != 0)=true:=by rw [bne_iff_ne]; exact h
 generalize schemaE x.dims x.attrs=E at C hne
 clear hx hs hsa h
 go_enter Tryz.func36,Tryz.ntmps36
 go_wp2_with fail
 refine (C.out _ (below_alloc _ _)).mono ?_
 rintro e w1 ⟨rfl,hb⟩
 have HB:=Lib.hid (below_keep (below_alloc w _) hb)
 clear hb C
 go_wp2
 go_ret
 exact ⟨rfl,HB.out⟩
theorem rarr_many (x:ArrT) (vd va vc:Value) (w:World) (hx:ArrR w vd va vc x) (hs:StrD x.dims) (hsa:StrA x.attrs) (h:schemaE x.dims x.attrs=0) (h2:4096<x.cells.length) :
  Calls Tryz.prog 36 #[.agg #[vd,va,vc]] w (RetV' (.int .i64 9) w):=by
 have C:=Lib.hid (fun w1 (hb:Below w.heap.size w w1) => h ▸ rschema_any x.dims x.attrs vd va w1 (hx.dims.later DimR.lasts hb) (hx.attrs.later AttrR.lasts hb) hs hsa)
 obtain ⟨p1,cap1,rfl,c1,c1'⟩:=hx.dims.shape
 obtain ⟨p2,cap2,rfl,c2,c2'⟩:=hx.attrs.shape
 obtain ⟨p3,cap3,rfl,c3,c3'⟩:=hx.cells.shape
 have h3:((4096:Int)<x.cells.length):=by omega
 clear hx hs hsa h h2
 go_enter Tryz.func36,Tryz.ntmps36
 go_wp2_with fail
 refine (C.out _ (below_alloc _ _)).mono ?_
 rintro e w1 ⟨rfl,hb⟩
 have HB:=Lib.hid (below_keep (below_alloc w _) hb)
 have hc2:w1.cell? ⟨w.heap.size,2,none⟩=some (.slice p3 x.cells.length cap3):=by
  rw [hb.cell (p:=⟨w.heap.size,2,none⟩) (by simp),World.cell?_alloc_at _ _ _ _ rfl]; rfl
 clear hb C
 go_wp2
 go_ret
 exact ⟨rfl,HB.out⟩
def StrC (l:List CellT):Prop:=∀ c ∈ l,StrV c.vals
set_option maxHeartbeats 6400000 in
set_option maxRecDepth 100000 in
theorem rarr_core (x:ArrT) (vd va vc:Value) (w:World) (hx:ArrR w vd va vc x) (hs:StrD x.dims) (hsa:StrA x.attrs) (hsc:StrC x.cells) (h:schemaE x.dims x.attrs=0) (h2:x.cells.length≤4096) :
  Calls Tryz.prog 36 #[.agg #[vd,va,vc]] w (RetV' (.int .i64 (cellsL x.dims x.attrs none x.cells)) w):=by
 have C:=Lib.hid (fun w1 (hb:Below w.heap.size w w1) => h ▸ rschema_any x.dims x.attrs vd va w1 (hx.dims.later DimR.lasts hb) (hx.attrs.later AttrR.lasts hb) hs hsa)
 have CC:=Lib.hid (fun (c:CellT) (v1 v2:Value) (w1:World) (hb:Below w.heap.size w w1) (k1:Ints w1 v1 c.co) (k2:Vals w1 v2 c.vals) (hsv:StrV c.vals) => rcell_any x.dims x.attrs c vd va v1 v2 w1 (hx.dims.later DimR.lasts hb) (hx.attrs.later AttrR.lasts hb) k1 k2 hsv)
 have HX:=Lib.hid hx
 have HSC:=Lib.hid hsc
 obtain ⟨p1,cap1,rfl,c1,c1'⟩:=hx.dims.shape
 obtain ⟨p2,cap2,rfl,c2,c2'⟩:=hx.attrs.shape
 obtain ⟨p3,cap3,rfl,c3,c3'⟩:=hx.cells.shape
 have h3:¬ ((4096:Int)<x.cells.length):=by omega
 obtain ⟨R,hR⟩:∃ R:Int,R=cellsL x.dims x.attrs none x.cells:=⟨_,rfl⟩
 rw [← hR]
 have HR:=Lib.hid hR
 obtain ⟨W1,hW1⟩:∃ W1,W1=w.alloc (.cells #[.slice p1 x.dims.length cap1,.slice p2 x.attrs.length cap2,.slice p3 x.cells.length cap3] 26):=⟨_,rfl⟩
 have HBX:Hid (∀ w',Below W1.heap.size W1 w'→w'.cell? ⟨w.heap.size,0,none⟩=some (.slice p1 x.dims.length cap1)∧w'.cell? ⟨w.heap.size,1,none⟩=some (.slice p2 x.attrs.length cap2)∧w'.cell? ⟨w.heap.size,2,none⟩=some (.slice p3 x.cells.length cap3)):=fun w' hb => by
  have hs:W1.heap.size=w.heap.size+1:=by rw [hW1]; simp
  have hc:∀ j,w'.cell? ⟨w.heap.size,j,none⟩=W1.cell? ⟨w.heap.size,j,none⟩:=fun j => hb.cell (p:=⟨w.heap.size,j,none⟩) (by rw [hs]; exact Nat.lt_succ_self _)
  refine ⟨?_,?_,?_⟩ <;> (rw [hc,hW1,World.cell?_alloc_at _ _ _ _ rfl]; rfl)
 have HB1:Hid (Below w.heap.size w W1):=by show Below _ _ _; rw [hW1]; exact below_alloc _ _
 clear hx hs hsa h hR c1 c2 hsc
 go_enter Tryz.func36,Tryz.ntmps36
 go_wp2_with fail
 refine (C.out _ (below_alloc _ _)).mono ?_
 rintro e w2 ⟨rfl,hb⟩
 rw [← hW1] at hb
 have HB2:=Lib.hid hb
 obtain ⟨d0,d1,d2⟩:=HBX.out w2 hb
 clear hb C hW1
 go_wp2
 clear d0 d1 d2
 go_loopw [4] (fun iv wr => ∃ i:Nat,i≤x.cells.length∧iv=.int .i64 (i:Nat)∧Hid (cellsL x.dims x.attrs (befC x.cells i) (x.cells.drop i)=R)∧Below W1.heap.size W1 wr) (fun iv _ => x.cells.length - (intOf iv).toNat)
 case atStart => exact ⟨0,Nat.zero_le _,rfl,(by show _=_; rw [HR.out]; rfl),HB2.out⟩
 case round =>
  obtain ⟨i,hi,rfl,HN,hb⟩:=hrel
  have HBR:=Lib.hid hb
  have HBWr:=Lib.hid (below_keep HB1.out hb)
  obtain ⟨d0,d1,d2⟩:=HBX.out wr hb
  have HCW:=Lib.hid (HX.out.cells.later CellR.lasts (below_keep HB1.out hb))
  clear hb
  by_cases hlt:i<x.cells.length
  ·obtain ⟨g,o,c,ea,hc,hr⟩:=HCW.out.at i hlt
   subst ea
   have HC:=Lib.hid hc
   obtain ⟨v1,v2,e1,e2,k1,k2⟩:=hr.ex
   have K1:=Lib.hid k1
   have K2:=Lib.hid k2
   obtain ⟨q1,capq1,rfl,-,-⟩:=k1.shape
   obtain ⟨q2,capq2,rfl,-,-⟩:=k2.shape
   have HI1:Hid (i+1≤x.cells.length):=hlt
   have HI2:Hid (x.cells.length - (i+1)<x.cells.length - i):=by show _<_; omega
   have ib0:(0:Int)≤(i:Int):=by omega
   have ib1:(i:Int)<(x.cells.length:Int):=by omega
   have K:Hid (∀ w',Below wr.heap.size wr w'→w'.cell? ⟨w.heap.size,0,none⟩=some (.slice p1 x.dims.length cap1)∧w'.cell? ⟨w.heap.size,1,none⟩=some (.slice p2 x.attrs.length cap2)∧w'.cell? ⟨w.heap.size,2,none⟩=some (.slice (some ⟨g,o,none⟩) x.cells.length cap3)∧w'.cell? ⟨g,o+i * 2,none⟩=some (.slice q1 c.co.length capq1)∧w'.cell? ⟨g,o+i * 2+1,none⟩=some (.slice q2 c.vals.length capq2)∧Below wr.heap.size wr w') :=
    fun w' h => ⟨cell_later d0 h,cell_later d1 h,cell_later d2 h,cell_later e1 h,cell_later e2 h,h⟩
   have CE:=Lib.hid (fun w9 (hb:Below wr.heap.size wr w9) => CC.out c _ _ w9 (HBWr.out.trans (hb.mono HBWr.out.size)) (K1.out.later IntR.lasts hb) (K2.out.later ValR.lasts hb) (HSC.out c (List.mem_of_getElem? hc)))
   generalize hce:cellE x.dims x.attrs c=r at CE
   have HCE:=Lib.hid hce
   clear hc hr k1 k2 hce d0 d1 e1 e2
   go_wp2_with fail
   clear d2
   go_region_held3 (fun w' => w'.cell? ⟨w.heap.size,0,none⟩=some (.slice p1 x.dims.length cap1)∧w'.cell? ⟨w.heap.size,1,none⟩=some (.slice p2 x.attrs.length cap2)∧w'.cell? ⟨w.heap.size,2,none⟩=some (.slice (some ⟨g,o,none⟩) x.cells.length cap3)∧w'.cell? ⟨g,o+i * 2,none⟩=some (.slice q1 c.co.length capq1)∧w'.cell? ⟨g,o+i * 2+1,none⟩=some (.slice q2 c.vals.length capq2)∧Below wr.heap.size wr w')
    (first | exact K.out _ (Below.refl _ _).drew | exact K.out _ (by assumption))
    ((go_at_call 80; refine (CE.out _ (Below.refl _ _).drew).mono ?_; rintro e w3 ⟨rfl,hb2⟩; have hb3:Below wr.heap.size wr w3:=below_keep (Below.refl _ _).drew hb2))
   have HB3:=Lib.hid hb3
   have HBA:=Lib.hid (HBR.out.trans (hb3.mono HBR.out.size))
   clear hb2 hb3 CE
   by_cases hz:r=0
   ·subst hz
    cases i with
    | zero =>
     have HN2:=Lib.hid ((cells_step _ _ HC.out HCE.out rfl).symm.trans HN.out)
     go_wp2
     exact ⟨⟨0+1,HI1.out,by go_num,HN2.out,HBA.out⟩,HI2.out⟩
    | succ k =>
     obtain ⟨g',o',b,ea',hbk,hrb⟩:=HCW.out.at k (by omega)
     injection ea' with ea'
     injection ea' with eg eo _
     subst eg eo
     obtain ⟨u1,u2,f1,f2,m1,m2⟩:=hrb.ex
     have M1:=Lib.hid m1
     obtain ⟨q3,capq3,rfl,-,-⟩:=m1.shape
     have HNX:=Lib.hid ((cells_next _ _ hbk HC.out HCE.out).symm.trans HN.out)
     have F1:=Lib.hid f1
     have hk0:(((k:Nat):Int)+1 == 0)=false:=by rw [beq_eq_false_iff_ne]; omega
     have K2:Hid (∀ w',Below w3.heap.size w3 w'→w'.cell? ⟨w.heap.size,2,none⟩=some (.slice (some ⟨g,o,none⟩) x.cells.length cap3)∧w'.cell? ⟨g,o+k * 2,none⟩=some (.slice q3 b.co.length capq3)∧w'.cell? ⟨g,o+(k+1) * 2,none⟩=some (.slice q1 c.co.length capq1)∧Below w3.heap.size w3 w'):=fun w' hb' => by
      have hbb:=HB3.out.trans (hb'.mono HB3.out.size)
      have hk:=K.out w' hbb
      exact ⟨hk.2.2.1,cell_later F1.out hbb,hk.2.2.2.1,hb'⟩
     have CP:Hid (∀ w',Below w3.heap.size w3 w'→Calls Tryz.prog 81 #[.slice q3 b.co.length capq3,.slice q1 c.co.length capq1] w' (RetV' (.int .i64 (cmpI b.co c.co)) w')):=fun w' hb' => by
      have hbb:=HB3.out.trans (hb'.mono HB3.out.size)
      exact rcompare_any b.co c.co _ _ w' (M1.out.later IntR.lasts hbb) (K1.out.later IntR.lasts hbb)
     have hqc:=cmpI_cases b.co c.co
     generalize cmpI b.co c.co=q at HNX CP hqc
     have HQC:=Lib.hid hqc
     clear hbk hrb f2 m1 m2 f1 hqc
     go_wp2
     have a0:(0:Int)≤(k:Int):=by omega
     have a1:(k:Int)<(x.cells.length:Int):=by omega
     have a4:(0:Int)≤(k:Int)+1:=by omega
     have a5:(k:Int)+1<(x.cells.length:Int):=by omega
     have a2:IntKind.i64.wrap (k:Int)=(k:Int):=IntWalk.i64_in _ (by omega)
     have a3:IntKind.i64.wrap ((k:Int)+1 - 1)=(k:Int):=by rw [Int.add_sub_cancel]; exact a2
     go_region_held3 (fun w' => w'.cell? ⟨w.heap.size,2,none⟩=some (.slice (some ⟨g,o,none⟩) x.cells.length cap3)∧w'.cell? ⟨g,o+k * 2,none⟩=some (.slice q3 b.co.length capq3)∧w'.cell? ⟨g,o+(k+1) * 2,none⟩=some (.slice q1 c.co.length capq1)∧Below w3.heap.size w3 w')
      (first | exact K2.out _ (Below.refl _ _).drew | exact K2.out _ (by assumption))
      ((go_at_call 81; refine (CP.out _ (Below.refl _ _).drew).mono ?_; rintro e w4 ⟨rfl,hb4'⟩; have hb4:Below w3.heap.size w3 w4:=below_keep (Below.refl _ _).drew hb4'))
     have HB5:=Lib.hid (HBA.out.trans (hb4.mono HBA.out.size))
     have HB4:=Lib.hid (below_keep HB1.out HB5.out)
     clear a0 a1 a2 a3 a4 a5 hb4 hb4' K CP
     rcases HQC.out with h | h | h
     ·subst h
      have HRR:Hid (cellsL x.dims x.attrs (befC x.cells (k+1+1)) (x.cells.drop (k+1+1))=R):=by show _=_; rw [← HNX.out,if_neg (by decide),if_neg (by decide)]
      go_wp2
      exact ⟨⟨k+1+1,HI1.out,by go_num,HRR.out,HB5.out⟩,HI2.out⟩
     ·subst h
      have HRR:Hid (R=5):=by show _=_; rw [← HNX.out,if_pos rfl]
      go_wp2
      go_ret
      rw [HRR.out]
      exact ⟨rfl,HB4.out⟩
     ·subst h
      have HRR:Hid (R=2):=by show _=_; rw [← HNX.out,if_neg (by decide),if_pos rfl]
      go_wp2
      go_ret
      rw [HRR.out]
      exact ⟨rfl,HB4.out⟩
   ·have HRR:Hid (R=r):=by show _=_; rw [← HN.out,cells_bad _ _ HC.out (by rw [HCE.out]; exact hz),HCE.out]
    have hz':(r != 0)=true:=by rw [bne_iff_ne]; exact hz
    have HB4:=Lib.hid (below_keep HB1.out HBA.out)
    clear hz
    go_wp2
    go_ret
    rw [HRR.out]
    exact ⟨rfl,HB4.out⟩
  ·obtain rfl:i=x.cells.length:=by omega
   have hn:=HN.out
   rw [List.drop_length] at hn
   have HRR:Hid (R=0):=by
    show _=_
    rw [← hn]
    cases befC x.cells x.cells.length <;> rfl
   clear hn HN
   go_wp2
   go_ret
   rw [HRR.out]
   exact ⟨rfl,HBWr.out⟩
theorem rarr_any (x:ArrT) (vd va vc:Value) (w:World) (hx:ArrR w vd va vc x) (hs:StrD x.dims) (hsa:StrA x.attrs) (hsc:StrC x.cells) :
  Calls Tryz.prog 36 #[.agg #[vd,va,vc]] w (RetV' (.int .i64 (checkE x)) w):=by
 unfold checkE
 by_cases h:schemaE x.dims x.attrs=0
 ·rw [if_neg (by simp [h])]
  by_cases h2:4096<x.cells.length
  ·rw [if_pos h2]
   exact rarr_many x vd va vc w hx hs hsa h h2
  ·rw [if_neg h2]
   exact rarr_core x vd va vc w hx hs hsa hsc h (by omega)
 ·rw [if_pos h]
  exact rarr_bad x vd va vc w hx hs hsa h
end Go.Proofs.YtdbnebhehiiakaaGreatDoor
