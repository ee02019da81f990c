/- Lemmas and contracts, each under its own condition: space.widened without the overlap: the main part. space.widened: the main part. -/
import Derived.Deep.DeepCutAuto
import Derived.Deep.CutBlock
import Derived.Test.YtdbnebhehiiakaaGreatDoorS11
import Derived.Test.YtdbnebhehiiakaaGreatDoorS9
namespace Go.Proofs.YtdbnebhehiiakaaGreatDoor
open Go.RowKit
set_option maxHeartbeats 16000000 in
set_option maxRecDepth 100000 in
theorem widened_false (d:List DimT) (l:LayT) (c:List Int) (vd vs vo vc:Value) (w:World) (hd:Dims w vd d) (hl:LayR w vs vo l) (hc:Ints w vc c) (hs:StrD d) (h:layoutE d l=0) (h2:c.length=d.length)
  (hcb:∀ x ∈ c,-9223372036854775808≤x∧x≤9223372036854775807) :
  Calls Tryz.prog 51 #[vd,layV vs vo l,vc,.bool false] w (RetBx (bxOf (widR [] [] d l.sides (overQ l false) c)) (erOf (widR [] [] d l.sides (overQ l false) c)) w):=by
 have C:=Lib.hid (fun w1 (hb:Below w.heap.size w w1) => layout_any d l vd vs vo w1 (hd.later DimR.lasts hb) (hl.later hb) hs)
 rw [h] at C
 have GL:=Lib.hid (layout_good h)
 have HL2:=Lib.hid h2
 have hd4:=(dims_good GL.out.dims).2.1
 have HDD:=Lib.hid hd
 have HLL:=Lib.hid hl
 have HCC:=Lib.hid hc
 have HCB:=Lib.hid hcb
 obtain ⟨p1,cap1,rfl,-⟩:=hd.shape
 obtain ⟨p2,cap2,rfl,-⟩:=hl.sides.shape
 obtain ⟨p3,cap3,rfl,-⟩:=hl.over.shape
 obtain ⟨p4,cap4,rfl,c4,c4'⟩:=hc.shape
 obtain ⟨i0,hi0,hz0,hz1,hz2⟩:=info_parts infoZ
 have HBX:=Lib.hid (LayB.made w (.slice p2 l.sides.length cap2) (.slice p3 l.over.length cap3) l 38)
 obtain ⟨W9,hW9⟩:∃ W9,W9=widR [] [] d l.sides (overQ l false) c:=⟨_,rfl⟩
 rw [← hW9]
 have HW9:=Lib.hid hW9
 obtain ⟨R,hR⟩:∃ R:Ending→World→Prop,R=RetBx (bxOf W9) (erOf W9) w:=⟨_,rfl⟩
 rw [← hR]
 have HR:=Lib.hid hR
 have e1:=GL.out.sides
 have e2:=GL.out.over
 obtain ⟨ss,oo,o,t,f,c'⟩:=l
 simp only at e1 e2 HW9
 simp only [h2,e1,e2] at C HBX HLL HCC c4 ⊢
 clear hd hl hs h hc h2 e1 e2 hW9 hR hcb
 go_enter Tryz.func51,Tryz.ntmps51
 go_wp2_with fail
 refine (C.out _ ((below_alloc _ _).trans ((below_alloc _ _).mono (by simp)))).mono ?_
 rintro e w1 ⟨rfl,hb⟩
 have HB:=Lib.hid (((below_alloc _ _).trans ((below_alloc _ _).mono (by simp))).trans (hb.mono (by simp; omega)))
 have HS1:Hid (w.heap.size+2≤w1.heap.size):=by show _≤_; have:=hb.size; simp at this; omega
 have hrs:=(ResB.made (w.alloc (.cells #[.slice p2 d.length cap2,.slice p3 d.length cap3,.int .i64 o,.int .i64 t,.int .i64 f,.int .i64 c'] 38)) 44).later hb (by simp)
 simp only [World.size_alloc] at hrs
 have HRS:=Lib.hid hrs
 have HLB:=Lib.hid (HBX.out w1 (((below_alloc _ _).mono (by simp)).trans (hb.mono (by simp))))
 clear hb C hrs HBX
 go_wp2
 have HBO:Hid (BoxO w1.heap.size w1.heap.size (w1.alloc (.cells #[.slice none 0 0,.slice none 0 0] 44)) (.slice none 0 0) (.slice none 0 0) [] []) :=
  ⟨ResB.made w1 _,World.ownsRow_nil _ _ _ _,World.ownsRow_nil _ _ _ _,(fun b hb => by cases hb),⟨_,(0,0),World.alloc_heap_new w1 _⟩⟩
 have HAB:=Lib.hid (below_alloc w1 (.cells #[.slice none 0 0,.slice none 0 0] 44))
 go_loopw [32] (fun iv wr => ∃ (i:Nat) (v1 v2:Value) (lo hi:List Int),i≤d.length∧iv=.int .i64 (i:Nat)∧Hid (lo.length=i∧hi.length=i)∧Hid (widR lo hi (d.drop i) (ss.drop i) ((overQ ⟨ss,oo,o,t,f,c'⟩ false).drop i) (c.drop i)=W9)∧BoxO w1.heap.size w1.heap.size wr v1 v2 lo hi∧Below w1.heap.size w1 wr) (fun iv _ => d.length - (intOf iv).toNat)
 case atStart => exact ⟨0,_,_,[],[],Nat.zero_le _,rfl,⟨rfl,rfl⟩,HW9.out.symm,HBO.out,HAB.out⟩
 case round =>
  clear HBO HAB
  obtain ⟨i,v1,v2,lo,hi,hi',rfl,HLN,HN,hbo,hb⟩:=hrel
  have HBO:=Lib.hid hbo
  have HBR:=Lib.hid hb
  have HBW:=Lib.hid (HB.out.trans (hb.mono (by have:=HS1.out; omega)))
  obtain ⟨r0,r1,r2,r3⟩:=HRS.out.later hb (by have:w.heap.size+2≤w1.heap.size:=HS1.out; omega)
  obtain ⟨b0,b1,-⟩:=HLB.out
  have b0:=cell_later b0 hb
  have b1:=cell_later b1 hb
  by_cases hlt:i<d.length
  ·obtain ⟨gd,od,x,ea,hx,hr⟩:=Ls.at HDD.out i hlt
   obtain ⟨gs,os,y,ea',hy,hr'⟩:=Ls.at HLL.out.sides i (by rw [GL.out.sides]; exact hlt)
   obtain ⟨go,oo',z,ez,hz,hrz⟩:=Ls.at HLL.out.over i (by rw [GL.out.over]; exact hlt)
   obtain ⟨gc,oc,n,ea'',hn,hr''⟩:=Ls.at HCC.out i (by rw [HL2.out]; exact hlt)
   subst ea ea' ez ea''
   have HGD0:Hid (gd<w1.heap.size):=Nat.lt_of_lt_of_le (World.block_lt_of_cell? _ _ hr.lo) (Nat.le_trans (Nat.le_add_right _ 2) HS1.out)
   have hr:=DimR.lasts _ _ _ _ _ hr HBW.out
   have hr':=IntR.lasts _ _ _ _ _ hr' HBW.out
   have hrz:=IntR.lasts _ _ _ _ _ hrz HBW.out
   have hr'':=IntR.lasts _ _ _ _ _ hr'' HBW.out
   rw [Nat.mul_one] at hr' hrz hr''
   unfold IntR at hr' hrz hr''
   obtain ⟨x0,x1,x2⟩:=hr
   have gsd:=GL.out.good i y z hy hz
   have gx:=(dims_good GL.out.dims).2.2 x (List.mem_of_getElem? hx)
   have gl:=gx.last
   have hcn:=HCB.out n (List.mem_of_getElem? hn)
   have hcn1:=hcn.1
   have hcn2:=hcn.2
   have hzq:(overQ ⟨ss,oo,o,t,f,c'⟩ false)[i]? = some (0:Int):=by
    unfold overQ
    rw [if_neg (by decide),List.getElem?_replicate,if_pos (by rw [show oo.length=d.length from GL.out.over]; exact hlt)]
   have z0:(0:Int)≤(0:Int):=by omega
   have z16:(0:Int)≤(16:Int):=by omega
   have hW:=HN.out
   rw [widR_drop hx hy hzq hn] at hW
   have HW:=Lib.hid hW
   have y1:=gsd.s1
   have y64:=gsd.s2
   have g1:=gx.lo
   have g2:=gx.lo'
   have g3:=gl.1
   have g4:=gl.2.1
   have HLX:=Lib.hid (fun w9 => last_any x w9)
   have HX1:Hid (wr.cell? ⟨gd,od+i * 3,none⟩=some (strV x.name)):=x0
   have HGD:Hid (gd<w1.heap.size):=HGD0.out
   obtain ⟨L,hL⟩:∃ L,L=x.last:=⟨_,rfl⟩
   rw [← hL] at HW g3 g4 HLX
   obtain ⟨nm,xl,xh⟩:=x
   simp only at x0 x1 x2 g1 g2 g3 HW HLX HX1
   have ib0:(0:Int)≤(i:Int):=by omega
   have ib1:(i:Int)<(d.length:Int):=by omega
   have hsub:IntKind.i64.wrap (L - xl)=L - xl:=IntWalk.i64_in _ (by omega)
   have hdiv:(L - xl).tdiv y=(L - xl) / y:=Int.tdiv_eq_ediv_of_nonneg (by omega)
   have hd0:0≤(L - xl) / y:=Int.ediv_nonneg (by omega) (by omega)
   have hd1:(L - xl) / y≤L - xl:=Int.ediv_le_self _ (by omega)
   have hdm:(L - xl) / y * y≤L - xl:=Int.ediv_mul_le _ (by omega)
   have hwr:IntKind.i64.wrap ((L - xl) / y)=(L - xl) / y:=IntWalk.i64_in _ (by omega)
   have hyne:¬ y=0:=by omega
   obtain ⟨Q,hQ⟩:∃ Q,Q=(L - xl) / y:=⟨_,rfl⟩
   rw [← hQ] at hdiv hwr hd0 hd1 hdm HW
   have K:Hid (∀ w',Below wr.heap.size wr w'→w'.cell? ⟨gd,od+i * 3,none⟩=some (strV nm)∧w'.cell? ⟨gd,od+i * 3+1,none⟩=some (.int .i64 xl)∧w'.cell? ⟨gd,od+i * 3+2,none⟩=some (.int .i64 xh)∧Below wr.heap.size wr w'):=fun w' hb' => ⟨cell_later x0 hb',cell_later x1 hb',cell_later x2 hb',hb'⟩
   have HRB:Hid (ResB wr (w.heap.size+1) (.slice none 0 0) (.slice none 0 0)):=⟨r0,r1,r2,r3⟩
   have hlt2:w.heap.size+1<wr.heap.size:=World.block_lt_of_cell? _ _ r0
   clear hb hbo hx hy hz hn hzq hcn hW gsd gx gl hL hQ r0 r1 r2 r3 x0 x1 x2
   by_cases hn0:n<0
   ·have hdn:decide (n<0)=true:=decide_eq_true hn0
    have hWn:Hid (W9=none):=by show _=_; rw [← HW.out,if_pos (.inl hn0)]
    go_wp2
    go_quiet (fail)
    obtain ⟨r0,r1,r2,r3⟩:=HRB.out
    have HBQ:=Lib.hid (HBW.out.trans ((below_drewN' wr nq).mono HBW.out.size))
    go_wp2
    refine bodyPost_ret (by simp [results,Tryz.results51,go_sem,r0,r1]; try rfl) rfl ?_
    rw [HR.out,hWn.out]
    exact ⟨_,_,rfl,IntsO.nil _,IntsO.nil _,(HBQ.out.setCell (by simp) _).setCell (by simp) _⟩
   ·have hdn:decide (n<0)=false:=decide_eq_false hn0
    go_wp2
    go_region_held3 (fun w' => w'.cell? ⟨gd,od+i * 3,none⟩=some (strV nm)∧w'.cell? ⟨gd,od+i * 3+1,none⟩=some (.int .i64 xl)∧w'.cell? ⟨gd,od+i * 3+2,none⟩=some (.int .i64 xh)∧Below wr.heap.size wr w')
     (first | exact K.out _ (Below.refl _ _).drew | exact K.out _ (by assumption))
     ((go_at_call 66; refine (HLX.out _).mono ?_; rintro e w2 ⟨rfl,hb2⟩; have hb3:Below wr.heap.size wr w2:=below_keep (Below.refl _ _).drew hb2))
    have HB2:=Lib.hid (HBW.out.trans (hb3.mono HBW.out.size))
    have HBR2:=Lib.hid (HBR.out.trans (hb3.mono HBR.out.size))
    have HBO2:=Lib.hid (HBO.out.later hb3)
    obtain ⟨x0,x1,x2,-⟩:=K.out w2 hb3
    have hlt3:w.heap.size+1<w2.heap.size:=Nat.lt_of_lt_of_le hlt2 hb3.size
    have HRB2:=Lib.hid (HRB.out.later hb3 hlt2)
    have HDIV:=Lib.hid hdiv
    clear hb2 hb3 hdn K hsub hdiv hwr
    by_cases hQn:Q<n
    ·have hWn:Hid (W9=none):=by show _=_; rw [← HW.out,if_pos (.inr hQn)]
     obtain ⟨r0,r1,r2,r3⟩:=HRB2.out
     clear x0 x1 x2
     go_wp2
     refine bodyPost_ret (by simp [results,Tryz.results51,go_sem,r0,r1]; try rfl) rfl ?_
     rw [HR.out,hWn.out]
     exact ⟨_,_,rfl,IntsO.nil _,IntsO.nil _,(HB2.out.setCell (by simp) _).setCell (by simp) _⟩
    ·have HWG:=HW.out
     rw [if_neg (by omega)] at HWG
     simp only [Int.sub_zero,Int.add_zero] at HWG
     have HWN:=Lib.hid HWG
     have m0:0≤n * y:=Int.mul_nonneg (by omega) (by omega)
     have m2:n * y≤Q * y:=Int.mul_le_mul_of_nonneg_right (by omega) (by omega)
     have m1:n * y≤2147483648:=by omega
     obtain ⟨P,hP⟩:∃ P,P=n * y:=⟨_,rfl⟩
     clear HWG m2
     go_upto_region 16 with (fail)
     go_cut [16] (fun av wx => av=.int .i64 (xl+n * y)∧∃ (g1 cp1:Nat),BoxO w1.heap.size w1.heap.size wx (.slice (some ⟨g1,0,none⟩) (lo.length+1) cp1) v2 (lo ++ [max (xl+n * y) xl]) hi∧Below w1.heap.size w2 wx)
     case first =>
      obtain ⟨⟨f0,f1,f2,f3⟩,ow1,ow2,hap,htg⟩:=HBO2.out
      have w5:IntKind.i64.wrap (xl+n * y)=xl+n * y:=IntWalk.i64_in _ (by omega)
      have hll:lo.length≤900:=by have:=HLN.out.1; omega
      have hge1:w1.heap.size≤w2.heap.size:=HBR2.out.size
      have FIN1:Hid (∀ (g1 cp1:Nat) (w3:World),w3.ownsRow w1.heap.size 3 1 (.slice (some ⟨g1,0,none⟩) (lo.length+1) cp1) (lo.length+1) (lo.map (Value.int .i64) ++ [.int .i64 (max (xl+n * y) xl)])→(w2.alloc (.cells #[.int .i64 (max (xl+n * y) xl)] 3)).drew.grownBy w3 v1.ownBlock→(v1.ownBlock=some g1 ∨ g1=w2.heap.size+1) →
        ResB w3 w1.heap.size v1 v2∧BoxO w1.heap.size w1.heap.size (w3.setCell ⟨w1.heap.size,0,none⟩ (.slice (some ⟨g1,0,none⟩) (lo.length+1) cp1)) (.slice (some ⟨g1,0,none⟩) (lo.length+1) cp1) v2 (lo ++ [max (xl+n * y) xl]) hi∧Below w1.heap.size w2 (w3.setCell ⟨w1.heap.size,0,none⟩ (.slice (some ⟨g1,0,none⟩) (lo.length+1) cp1))):=fun g1 cp1 w3 h1 h2 h3 => by
       have hbd:Below w2.heap.size w2 (w2.alloc (.cells #[.int .i64 (max (xl+n * y) xl)] 3)).drew:=(below_alloc _ _).drew
       have hp:=BoxO.put1 (HBO2.out.later hbd) (by decide) (H:=w2.heap.size+1) (by simp) h1 h2 h3
       refine ⟨hp.1,hp.2,((hbd.mono hge1).grown h2 (Nat.le_trans hge1 hbd.size) (fun k e => ?_)).setCell (p:=⟨w1.heap.size,0,none⟩) (Nat.le_refl _) _⟩
       exact (HBO2.out.own1.lt k e).1
      have hq1:w1.heap.size<w2.heap.size:=htg.lt
      have hq2:w1.heap.size ≠ w2.heap.size:=Nat.ne_of_lt hq1
      have hq3:gd<w2.heap.size:=World.block_lt_of_cell? _ _ x1
      have hq4:gd ≠ w2.heap.size:=Nat.ne_of_lt hq3
      clear hap htg ow2 x0 x2
      go_region_law (refine step_append_lies _ (by rfl) _ _ 36 (by rfl) w1.heap.size 3 i0 (.int .i64 0) 1 8 Tryz.underlying36 hi0 hz0 hz1 hz2 rfl (by decide) v1 lo.length (lo.map (Value.int .i64)) (by rfl) (ow1.alloc _) ⟨w2.heap.size,0,none⟩ 1 1 [.int .i64 (max (xl+n * y) xl)] (by rfl) (by rfl) (cell_one_new _ _ _) (by simp [Value.oneCell']) (by omega) (by unfold maxLen; omega) (by omega) (by simp; omega) (w2.heap.size+1) (by simp) ?_; intro g1 cp1 w3 hown hgrow hat hlt9; have HF1:=Lib.hid (FIN1.out g1 cp1 w3 hown hgrow hat); obtain ⟨⟨f0,f1,f2,f3⟩,-,-⟩:=HF1.out; clear hown hgrow hat hlt9)
      all_goals
       go_wp2
       go_meet
       exact ⟨rfl,g1,cp1,HF1.out.2.1,HF1.out.2.2⟩
     case rest =>
      obtain ⟨rfl,g1,cp1,hbo4,hbw4⟩:=hcut
      obtain ⟨W4,hW4⟩:∃ W4,W4=wc:=⟨_,rfl⟩
      rw [← hW4] at hbo4 hbw4 ⊢
      have HBO4:=Lib.hid hbo4
      have HBW4:=Lib.hid hbw4
      have HBR4:=Lib.hid (HBR2.out.trans hbw4)
      have HX0':=Lib.hid x0
      have HX1':=Lib.hid x1
      have HX2':=Lib.hid x2
      clear hW4 hbo4 hbw4 x0 x1 x2
      have K4:Hid (∀ w',Below w1.heap.size W4 w'→w'.cell? ⟨gd,od+i * 3,none⟩=some (strV nm)∧w'.cell? ⟨gd,od+i * 3+1,none⟩=some (.int .i64 xl)∧w'.cell? ⟨gd,od+i * 3+2,none⟩=some (.int .i64 xh)):=fun w' hb' => by
       have hg9:gd<w1.heap.size:=HGD.out
       have h9:=HBW4.out.trans hb'
       exact ⟨(h9.cell (p:=⟨gd,od+i * 3,none⟩) hg9).trans HX0'.out,(h9.cell (p:=⟨gd,od+i * 3+1,none⟩) hg9).trans HX1'.out,(h9.cell (p:=⟨gd,od+i * 3+2,none⟩) hg9).trans HX2'.out⟩
      obtain ⟨x0,x1,x2⟩:=K4.out W4 (Below.refl _ _)
      obtain ⟨f0,f1,f2,f3⟩:=HBO4.out.res
      have FIN2:Hid (∀ (w5:World) (g2 cp2:Nat) (w6:World),Below W4.heap.size W4 w5→w6.ownsRow w1.heap.size 3 1 (.slice (some ⟨g2,0,none⟩) (hi.length+1) cp2) (hi.length+1) (hi.map (Value.int .i64) ++ [.int .i64 (min (xl+n * y+y - 1) L)])→(w5.alloc (.cells #[.int .i64 (min (xl+n * y+y - 1) L)] 3)).grownBy w6 v2.ownBlock→(v2.ownBlock=some g2 ∨ g2=w5.heap.size+1) →
        ResB w6 w1.heap.size (.slice (some ⟨g1,0,none⟩) (lo.length+1) cp1) v2∧BoxO w1.heap.size w1.heap.size (w6.setCell ⟨w1.heap.size,1,none⟩ (.slice (some ⟨g2,0,none⟩) (hi.length+1) cp2)) (.slice (some ⟨g1,0,none⟩) (lo.length+1) cp1) (.slice (some ⟨g2,0,none⟩) (hi.length+1) cp2) (lo ++ [max (xl+n * y) xl]) (hi ++ [min (xl+n * y+y - 1) L])∧Below w1.heap.size w1 (w6.setCell ⟨w1.heap.size,1,none⟩ (.slice (some ⟨g2,0,none⟩) (hi.length+1) cp2))):=fun w5 g2 cp2 w6 h0 h1 h2 h3 => by
       have hbd:Below W4.heap.size W4 (w5.alloc (.cells #[.int .i64 (min (xl+n * y+y - 1) L)] 3)):=below_keep h0 (below_alloc _ _)
       have hp:=BoxO.put2 (HBO4.out.later hbd) (by decide) (H:=w5.heap.size+1) (by simp) h1 h2 h3
       have hge4:w1.heap.size≤W4.heap.size:=HBR4.out.size
       refine ⟨hp.1,hp.2,((HBR4.out.trans (hbd.mono hge4)).grown h2 (Nat.le_trans hge4 hbd.size) (fun k e => ?_)).setCell (p:=⟨w1.heap.size,1,none⟩) (Nat.le_refl _) _⟩
       exact (HBO4.out.own2.lt k e).1
      go_wp2
      have w5:IntKind.i64.wrap (xl+n * y+y)=xl+n * y+y:=IntWalk.i64_in _ (by omega)
      have w6:IntKind.i64.wrap (xl+n * y+y - 1)=xl+n * y+y - 1:=IntWalk.i64_in _ (by omega)
      have w7:IntKind.i64.wrap (xl+n * y+y - 1)=xl+n * y+y - 1:=IntWalk.i64_in _ (by omega)
      have hlh:hi.length≤900:=by have:=HLN.out.2; omega
      have hhl:hi.length+1≤1000:=by omega
      have hge4:w1.heap.size≤W4.heap.size:=HBR4.out.size
      go_region_law ((first
       | (refine step_append_lies _ (by rfl) _ _ 36 (by rfl) w1.heap.size 3 i0 (.int .i64 0) 1 8 Tryz.underlying36 hi0 hz0 hz1 hz2 rfl (by decide) v2 hi.length (hi.map (Value.int .i64)) (by rfl) ((HBO4.out.later hb6).own2.alloc _) ⟨wq.heap.size,0,none⟩ 1 1 [.int .i64 (min (xl+n * y+y - 1) L)] (by rfl) (by rfl) (cell_one_new _ _ _) (by simp [Value.oneCell']) (by omega) (by unfold maxLen; omega) (by omega) (by have:=hb6.size; simp; omega) (wq.heap.size+1) (by simp) ?_; intro g2 cp2 w8 hown hgrow hat hlt9; have HF3:=Lib.hid (FIN2.out wq g2 cp2 w8 hb6 hown hgrow hat); obtain ⟨⟨f0,f1,f2,f3⟩,-,-⟩:=HF3.out; clear hown hgrow hat hlt9)
       | (refine step_wp rfl ?_; unfold Oper.wp; go_simp; go_at_call 66; refine (HLX.out _).mono ?_; rintro e wq ⟨rfl,hb5⟩; have hb6:Below W4.heap.size W4 wq:=below_keep (Below.refl _ _).drew hb5; have f1q:=cell_later f1 hb6; have hq1:w1.heap.size<wq.heap.size:=Nat.lt_of_lt_of_le HBO4.out.tag.lt hb6.size; have hq2:w1.heap.size ≠ wq.heap.size:=Nat.ne_of_lt hq1)))
      all_goals
       have HF9:=Lib.hid HF3.out.2
       clear w5 w6 w7 f1q f0 f1 f2 f3
       go_wp2
       refine ⟨⟨i+1,_,_,_,_,by omega,by go_num,?_,HWN.out,HF9.out.1,HF9.out.2⟩,by show d.length - _<d.length - _; simp [intOf]; omega⟩
       exact ⟨by rw [List.length_append,HLN.out.1]; rfl,by rw [List.length_append,HLN.out.2]; rfl⟩
  ·obtain rfl:i=d.length:=by omega
   have hn:=HN.out
   rw [List.drop_length,widR] at hn
   ·have HWS:Hid (W9=some (lo,hi)):=hn.symm
    obtain ⟨⟨f0,f1,f2,f3⟩,ow1,ow2,hap,htg⟩:=HBO.out
    have h1:=RowZ.append_owns ow1 rfl
    have h2:=RowZ.append_owns ow2 rfl
    have H1:=Lib.hid h1
    have H2:=Lib.hid h2
    obtain ⟨q1,k1,e1,-⟩:=h1.ints.shape
    obtain ⟨q2,k2,e2,-⟩:=h2.ints.shape
    have hlt2:w.heap.size+1<wr.heap.size:=World.block_lt_of_cell? _ _ r0
    have hltg:w.heap.size+1<w1.heap.size:=by have:w.heap.size+2≤w1.heap.size:=HS1.out; omega
    have HNG:Hid (∀ (v:Value) (n:Nat) (xs:List Value),wr.ownsRow w1.heap.size 3 1 v n xs→∀ b,v.ownBlock=some b→b ≠ w.heap.size+1):=fun v n xs h b hb => by
     have:=(h.lt b hb).1
     omega
    have HK1:=Lib.hid (HNG.out v1 _ _ ow1)
    have HK2:=Lib.hid (HNG.out v2 _ _ ow2)
    clear hn hbo hb ow1 ow2 hap htg h1 h2
    subst e1 e2
    go_wp2
    refine bodyPost_ret (by simp [results,Tryz.results51,go_sem,r0,r1]; try rfl) rfl ?_
    rw [HR.out,HWS.out]
    have hk:∀ (x:Value) (l:List Int) (u u':Value),IntsO wr x l→(∀ b,x.ownBlock=some b→b ≠ w.heap.size+1)→IntsO ((wr.setCell ⟨w.heap.size+1,0,none⟩ u).setCell ⟨w.heap.size+1,1,none⟩ u') x l:=fun x l u u' h hne =>
     (h.grown (grown_setG wr (w.heap.size+1) 0 u) (fun r er e2 => by cases er; exact hne _ e2 rfl)).grown (grown_setG _ (w.heap.size+1) 1 u') (fun r er e2 => by cases er; exact hne _ e2 rfl)
    exact ⟨_,_,rfl,hk _ _ _ _ H1.out HK1.out,hk _ _ _ _ H2.out HK2.out,(HBW.out.setCell (by simp) _).setCell (by simp) _⟩
   ·intro a1 a2 a3 a4 a5 a6 a7 a8 h9
    cases h9
set_option maxHeartbeats 16000000 in
set_option maxRecDepth 100000 in
theorem widened_true (d:List DimT) (l:LayT) (c:List Int) (vd vs vo vc:Value) (w:World) (hd:Dims w vd d) (hl:LayR w vs vo l) (hc:Ints w vc c) (hs:StrD d) (h:layoutE d l=0) (h2:c.length=d.length)
  (hcb:∀ x ∈ c,-9223372036854775808≤x∧x≤9223372036854775807) :
  Calls Tryz.prog 51 #[vd,layV vs vo l,vc,.bool true] w (RetBx (bxOf (widR [] [] d l.sides (overQ l true) c)) (erOf (widR [] [] d l.sides (overQ l true) c)) w):=by
 have C:=Lib.hid (fun w1 (hb:Below w.heap.size w w1) => layout_any d l vd vs vo w1 (hd.later DimR.lasts hb) (hl.later hb) hs)
 rw [h] at C
 have GL:=Lib.hid (layout_good h)
 have HL2:=Lib.hid h2
 have hd4:=(dims_good GL.out.dims).2.1
 have HDD:=Lib.hid hd
 have HLL:=Lib.hid hl
 have HCC:=Lib.hid hc
 have HCB:=Lib.hid hcb
 obtain ⟨p1,cap1,rfl,-⟩:=hd.shape
 obtain ⟨p2,cap2,rfl,-⟩:=hl.sides.shape
 obtain ⟨p3,cap3,rfl,-⟩:=hl.over.shape
 obtain ⟨p4,cap4,rfl,c4,c4'⟩:=hc.shape
 obtain ⟨i0,hi0,hz0,hz1,hz2⟩:=info_parts infoZ
 have HBX:=Lib.hid (LayB.made w (.slice p2 l.sides.length cap2) (.slice p3 l.over.length cap3) l 38)
 obtain ⟨W9,hW9⟩:∃ W9,W9=widR [] [] d l.sides (overQ l true) c:=⟨_,rfl⟩
 rw [← hW9]
 have HW9:=Lib.hid hW9
 obtain ⟨R,hR⟩:∃ R:Ending→World→Prop,R=RetBx (bxOf W9) (erOf W9) w:=⟨_,rfl⟩
 rw [← hR]
 have HR:=Lib.hid hR
 have e1:=GL.out.sides
 have e2:=GL.out.over
 obtain ⟨ss,oo,o,t,f,c'⟩:=l
 simp only at e1 e2 HW9
 simp only [h2,e1,e2] at C HBX HLL HCC c4 ⊢
 clear hd hl hs h hc h2 e1 e2 hW9 hR hcb
 go_enter Tryz.func51,Tryz.ntmps51
 go_wp2_with fail
 refine (C.out _ ((below_alloc _ _).trans ((below_alloc _ _).mono (by simp)))).mono ?_
 rintro e w1 ⟨rfl,hb⟩
 have HB:=Lib.hid (((below_alloc _ _).trans ((below_alloc _ _).mono (by simp))).trans (hb.mono (by simp; omega)))
 have HS1:Hid (w.heap.size+2≤w1.heap.size):=by show _≤_; have:=hb.size; simp at this; omega
 have hrs:=(ResB.made (w.alloc (.cells #[.slice p2 d.length cap2,.slice p3 d.length cap3,.int .i64 o,.int .i64 t,.int .i64 f,.int .i64 c'] 38)) 44).later hb (by simp)
 simp only [World.size_alloc] at hrs
 have HRS:=Lib.hid hrs
 have HLB:=Lib.hid (HBX.out w1 (((below_alloc _ _).mono (by simp)).trans (hb.mono (by simp))))
 clear hb C hrs HBX
 go_wp2
 have HBO:Hid (BoxO w1.heap.size w1.heap.size (w1.alloc (.cells #[.slice none 0 0,.slice none 0 0] 44)) (.slice none 0 0) (.slice none 0 0) [] []) :=
  ⟨ResB.made w1 _,World.ownsRow_nil _ _ _ _,World.ownsRow_nil _ _ _ _,(fun b hb => by cases hb),⟨_,(0,0),World.alloc_heap_new w1 _⟩⟩
 have HAB:=Lib.hid (below_alloc w1 (.cells #[.slice none 0 0,.slice none 0 0] 44))
 go_loopw [32] (fun iv wr => ∃ (i:Nat) (v1 v2:Value) (lo hi:List Int),i≤d.length∧iv=.int .i64 (i:Nat)∧Hid (lo.length=i∧hi.length=i)∧Hid (widR lo hi (d.drop i) (ss.drop i) ((overQ ⟨ss,oo,o,t,f,c'⟩ true).drop i) (c.drop i)=W9)∧BoxO w1.heap.size w1.heap.size wr v1 v2 lo hi∧Below w1.heap.size w1 wr) (fun iv _ => d.length - (intOf iv).toNat)
 case atStart => exact ⟨0,_,_,[],[],Nat.zero_le _,rfl,⟨rfl,rfl⟩,HW9.out.symm,HBO.out,HAB.out⟩
 case round =>
  clear HBO HAB
  obtain ⟨i,v1,v2,lo,hi,hi',rfl,HLN,HN,hbo,hb⟩:=hrel
  have HBO:=Lib.hid hbo
  have HBR:=Lib.hid hb
  have HBW:=Lib.hid (HB.out.trans (hb.mono (by have:=HS1.out; omega)))
  obtain ⟨r0,r1,r2,r3⟩:=HRS.out.later hb (by have:w.heap.size+2≤w1.heap.size:=HS1.out; omega)
  obtain ⟨b0,b1,-⟩:=HLB.out
  have b0:=cell_later b0 hb
  have b1:=cell_later b1 hb
  by_cases hlt:i<d.length
  ·obtain ⟨gd,od,x,ea,hx,hr⟩:=Ls.at HDD.out i hlt
   obtain ⟨gs,os,y,ea',hy,hr'⟩:=Ls.at HLL.out.sides i (by rw [GL.out.sides]; exact hlt)
   obtain ⟨go,oo',z,ez,hz,hrz⟩:=Ls.at HLL.out.over i (by rw [GL.out.over]; exact hlt)
   obtain ⟨gc,oc,n,ea'',hn,hr''⟩:=Ls.at HCC.out i (by rw [HL2.out]; exact hlt)
   subst ea ea' ez ea''
   have HGD0:Hid (gd<w1.heap.size):=Nat.lt_of_lt_of_le (World.block_lt_of_cell? _ _ hr.lo) (Nat.le_trans (Nat.le_add_right _ 2) HS1.out)
   have hr:=DimR.lasts _ _ _ _ _ hr HBW.out
   have hr':=IntR.lasts _ _ _ _ _ hr' HBW.out
   have hrz:=IntR.lasts _ _ _ _ _ hrz HBW.out
   have hr'':=IntR.lasts _ _ _ _ _ hr'' HBW.out
   rw [Nat.mul_one] at hr' hrz hr''
   unfold IntR at hr' hrz hr''
   obtain ⟨x0,x1,x2⟩:=hr
   have gsd:=GL.out.good i y z hy hz
   have gx:=(dims_good GL.out.dims).2.2 x (List.mem_of_getElem? hx)
   have gl:=gx.last
   have hcn:=HCB.out n (List.mem_of_getElem? hn)
   have hcn1:=hcn.1
   have hcn2:=hcn.2
   have hzq:(overQ ⟨ss,oo,o,t,f,c'⟩ true)[i]? = some z:=hz
   have z0:(0:Int)≤z:=gsd.o1
   have z16:z≤(16:Int):=gsd.o2
   have hW:=HN.out
   rw [widR_drop hx hy hzq hn] at hW
   have HW:=Lib.hid hW
   have y1:=gsd.s1
   have y64:=gsd.s2
   have g1:=gx.lo
   have g2:=gx.lo'
   have g3:=gl.1
   have g4:=gl.2.1
   have HLX:=Lib.hid (fun w9 => last_any x w9)
   have HX1:Hid (wr.cell? ⟨gd,od+i * 3,none⟩=some (strV x.name)):=x0
   have HGD:Hid (gd<w1.heap.size):=HGD0.out
   obtain ⟨L,hL⟩:∃ L,L=x.last:=⟨_,rfl⟩
   rw [← hL] at HW g3 g4 HLX
   obtain ⟨nm,xl,xh⟩:=x
   simp only at x0 x1 x2 g1 g2 g3 HW HLX HX1
   have ib0:(0:Int)≤(i:Int):=by omega
   have ib1:(i:Int)<(d.length:Int):=by omega
   have hsub:IntKind.i64.wrap (L - xl)=L - xl:=IntWalk.i64_in _ (by omega)
   have hdiv:(L - xl).tdiv y=(L - xl) / y:=Int.tdiv_eq_ediv_of_nonneg (by omega)
   have hd0:0≤(L - xl) / y:=Int.ediv_nonneg (by omega) (by omega)
   have hd1:(L - xl) / y≤L - xl:=Int.ediv_le_self _ (by omega)
   have hdm:(L - xl) / y * y≤L - xl:=Int.ediv_mul_le _ (by omega)
   have hwr:IntKind.i64.wrap ((L - xl) / y)=(L - xl) / y:=IntWalk.i64_in _ (by omega)
   have hyne:¬ y=0:=by omega
   obtain ⟨Q,hQ⟩:∃ Q,Q=(L - xl) / y:=⟨_,rfl⟩
   rw [← hQ] at hdiv hwr hd0 hd1 hdm HW
   have K:Hid (∀ w',Below wr.heap.size wr w'→w'.cell? ⟨gd,od+i * 3,none⟩=some (strV nm)∧w'.cell? ⟨gd,od+i * 3+1,none⟩=some (.int .i64 xl)∧w'.cell? ⟨gd,od+i * 3+2,none⟩=some (.int .i64 xh)∧Below wr.heap.size wr w'):=fun w' hb' => ⟨cell_later x0 hb',cell_later x1 hb',cell_later x2 hb',hb'⟩
   have HRB:Hid (ResB wr (w.heap.size+1) (.slice none 0 0) (.slice none 0 0)):=⟨r0,r1,r2,r3⟩
   have hlt2:w.heap.size+1<wr.heap.size:=World.block_lt_of_cell? _ _ r0
   clear hb hbo hx hy hz hn hzq hcn hW gsd gx gl hL hQ r0 r1 r2 r3 x0 x1 x2
   by_cases hn0:n<0
   ·have hdn:decide (n<0)=true:=decide_eq_true hn0
    have hWn:Hid (W9=none):=by show _=_; rw [← HW.out,if_pos (.inl hn0)]
    go_wp2
    go_quiet (fail)
    obtain ⟨r0,r1,r2,r3⟩:=HRB.out
    have HBQ:=Lib.hid (HBW.out.trans ((below_drewN' wr nq).mono HBW.out.size))
    go_wp2
    refine bodyPost_ret (by simp [results,Tryz.results51,go_sem,r0,r1]; try rfl) rfl ?_
    rw [HR.out,hWn.out]
    exact ⟨_,_,rfl,IntsO.nil _,IntsO.nil _,(HBQ.out.setCell (by simp) _).setCell (by simp) _⟩
   ·have hdn:decide (n<0)=false:=decide_eq_false hn0
    go_wp2
    go_region_held3 (fun w' => w'.cell? ⟨gd,od+i * 3,none⟩=some (strV nm)∧w'.cell? ⟨gd,od+i * 3+1,none⟩=some (.int .i64 xl)∧w'.cell? ⟨gd,od+i * 3+2,none⟩=some (.int .i64 xh)∧Below wr.heap.size wr w')
     (first | exact K.out _ (Below.refl _ _).drew | exact K.out _ (by assumption))
     ((go_at_call 66; refine (HLX.out _).mono ?_; rintro e w2 ⟨rfl,hb2⟩; have hb3:Below wr.heap.size wr w2:=below_keep (Below.refl _ _).drew hb2))
    have HB2:=Lib.hid (HBW.out.trans (hb3.mono HBW.out.size))
    have HBR2:=Lib.hid (HBR.out.trans (hb3.mono HBR.out.size))
    have HBO2:=Lib.hid (HBO.out.later hb3)
    obtain ⟨x0,x1,x2,-⟩:=K.out w2 hb3
    have hlt3:w.heap.size+1<w2.heap.size:=Nat.lt_of_lt_of_le hlt2 hb3.size
    have HRB2:=Lib.hid (HRB.out.later hb3 hlt2)
    have HDIV:=Lib.hid hdiv
    clear hb2 hb3 hdn K hsub hdiv hwr
    by_cases hQn:Q<n
    ·have hWn:Hid (W9=none):=by show _=_; rw [← HW.out,if_pos (.inr hQn)]
     obtain ⟨r0,r1,r2,r3⟩:=HRB2.out
     clear x0 x1 x2
     go_wp2
     refine bodyPost_ret (by simp [results,Tryz.results51,go_sem,r0,r1]; try rfl) rfl ?_
     rw [HR.out,hWn.out]
     exact ⟨_,_,rfl,IntsO.nil _,IntsO.nil _,(HB2.out.setCell (by simp) _).setCell (by simp) _⟩
    ·have HWG:=HW.out
     rw [if_neg (by omega)] at HWG
     have HWN:=Lib.hid HWG
     have m0:0≤n * y:=Int.mul_nonneg (by omega) (by omega)
     have m2:n * y≤Q * y:=Int.mul_le_mul_of_nonneg_right (by omega) (by omega)
     have m1:n * y≤2147483648:=by omega
     obtain ⟨P,hP⟩:∃ P,P=n * y:=⟨_,rfl⟩
     clear HWG m2
     go_upto_region 16 with (fail)
     go_cut [16] (fun av wx => av=.int .i64 (xl+n * y)∧∃ (g1 cp1:Nat),BoxO w1.heap.size w1.heap.size wx (.slice (some ⟨g1,0,none⟩) (lo.length+1) cp1) v2 (lo ++ [max (xl+n * y - z) xl]) hi∧Below w1.heap.size w2 wx)
     case first =>
      obtain ⟨⟨f0,f1,f2,f3⟩,ow1,ow2,hap,htg⟩:=HBO2.out
      have w5:IntKind.i64.wrap (xl+n * y - z)=xl+n * y - z:=IntWalk.i64_in _ (by omega)
      have hll:lo.length≤900:=by have:=HLN.out.1; omega
      have hge1:w1.heap.size≤w2.heap.size:=HBR2.out.size
      have FIN1:Hid (∀ (g1 cp1:Nat) (w3:World),w3.ownsRow w1.heap.size 3 1 (.slice (some ⟨g1,0,none⟩) (lo.length+1) cp1) (lo.length+1) (lo.map (Value.int .i64) ++ [.int .i64 (max (xl+n * y - z) xl)])→(w2.alloc (.cells #[.int .i64 (max (xl+n * y - z) xl)] 3)).drew.grownBy w3 v1.ownBlock→(v1.ownBlock=some g1 ∨ g1=w2.heap.size+1) →
        ResB w3 w1.heap.size v1 v2∧BoxO w1.heap.size w1.heap.size (w3.setCell ⟨w1.heap.size,0,none⟩ (.slice (some ⟨g1,0,none⟩) (lo.length+1) cp1)) (.slice (some ⟨g1,0,none⟩) (lo.length+1) cp1) v2 (lo ++ [max (xl+n * y - z) xl]) hi∧Below w1.heap.size w2 (w3.setCell ⟨w1.heap.size,0,none⟩ (.slice (some ⟨g1,0,none⟩) (lo.length+1) cp1))):=fun g1 cp1 w3 h1 h2 h3 => by
       have hbd:Below w2.heap.size w2 (w2.alloc (.cells #[.int .i64 (max (xl+n * y - z) xl)] 3)).drew:=(below_alloc _ _).drew
       have hp:=BoxO.put1 (HBO2.out.later hbd) (by decide) (H:=w2.heap.size+1) (by simp) h1 h2 h3
       refine ⟨hp.1,hp.2,((hbd.mono hge1).grown h2 (Nat.le_trans hge1 hbd.size) (fun k e => ?_)).setCell (p:=⟨w1.heap.size,0,none⟩) (Nat.le_refl _) _⟩
       exact (HBO2.out.own1.lt k e).1
      have hq1:w1.heap.size<w2.heap.size:=htg.lt
      have hq2:w1.heap.size ≠ w2.heap.size:=Nat.ne_of_lt hq1
      have hq3:gd<w2.heap.size:=World.block_lt_of_cell? _ _ x1
      have hq4:gd ≠ w2.heap.size:=Nat.ne_of_lt hq3
      clear hap htg ow2 x0 x2
      go_region_law (refine step_append_lies _ (by rfl) _ _ 36 (by rfl) w1.heap.size 3 i0 (.int .i64 0) 1 8 Tryz.underlying36 hi0 hz0 hz1 hz2 rfl (by decide) v1 lo.length (lo.map (Value.int .i64)) (by rfl) (ow1.alloc _) ⟨w2.heap.size,0,none⟩ 1 1 [.int .i64 (max (xl+n * y - z) xl)] (by rfl) (by rfl) (cell_one_new _ _ _) (by simp [Value.oneCell']) (by omega) (by unfold maxLen; omega) (by omega) (by simp; omega) (w2.heap.size+1) (by simp) ?_; intro g1 cp1 w3 hown hgrow hat hlt9; have HF1:=Lib.hid (FIN1.out g1 cp1 w3 hown hgrow hat); obtain ⟨⟨f0,f1,f2,f3⟩,-,-⟩:=HF1.out; clear hown hgrow hat hlt9)
      all_goals
       go_wp2
       go_meet
       exact ⟨rfl,g1,cp1,HF1.out.2.1,HF1.out.2.2⟩
     case rest =>
      obtain ⟨rfl,g1,cp1,hbo4,hbw4⟩:=hcut
      obtain ⟨W4,hW4⟩:∃ W4,W4=wc:=⟨_,rfl⟩
      rw [← hW4] at hbo4 hbw4 ⊢
      have HBO4:=Lib.hid hbo4
      have HBW4:=Lib.hid hbw4
      have HBR4:=Lib.hid (HBR2.out.trans hbw4)
      have HX0':=Lib.hid x0
      have HX1':=Lib.hid x1
      have HX2':=Lib.hid x2
      clear hW4 hbo4 hbw4 x0 x1 x2
      have K4:Hid (∀ w',Below w1.heap.size W4 w'→w'.cell? ⟨gd,od+i * 3,none⟩=some (strV nm)∧w'.cell? ⟨gd,od+i * 3+1,none⟩=some (.int .i64 xl)∧w'.cell? ⟨gd,od+i * 3+2,none⟩=some (.int .i64 xh)):=fun w' hb' => by
       have hg9:gd<w1.heap.size:=HGD.out
       have h9:=HBW4.out.trans hb'
       exact ⟨(h9.cell (p:=⟨gd,od+i * 3,none⟩) hg9).trans HX0'.out,(h9.cell (p:=⟨gd,od+i * 3+1,none⟩) hg9).trans HX1'.out,(h9.cell (p:=⟨gd,od+i * 3+2,none⟩) hg9).trans HX2'.out⟩
      obtain ⟨x0,x1,x2⟩:=K4.out W4 (Below.refl _ _)
      obtain ⟨f0,f1,f2,f3⟩:=HBO4.out.res
      have FIN2:Hid (∀ (w5:World) (g2 cp2:Nat) (w6:World),Below W4.heap.size W4 w5→w6.ownsRow w1.heap.size 3 1 (.slice (some ⟨g2,0,none⟩) (hi.length+1) cp2) (hi.length+1) (hi.map (Value.int .i64) ++ [.int .i64 (min (xl+n * y+y - 1+z) L)])→(w5.alloc (.cells #[.int .i64 (min (xl+n * y+y - 1+z) L)] 3)).grownBy w6 v2.ownBlock→(v2.ownBlock=some g2 ∨ g2=w5.heap.size+1) →
        ResB w6 w1.heap.size (.slice (some ⟨g1,0,none⟩) (lo.length+1) cp1) v2∧BoxO w1.heap.size w1.heap.size (w6.setCell ⟨w1.heap.size,1,none⟩ (.slice (some ⟨g2,0,none⟩) (hi.length+1) cp2)) (.slice (some ⟨g1,0,none⟩) (lo.length+1) cp1) (.slice (some ⟨g2,0,none⟩) (hi.length+1) cp2) (lo ++ [max (xl+n * y - z) xl]) (hi ++ [min (xl+n * y+y - 1+z) L])∧Below w1.heap.size w1 (w6.setCell ⟨w1.heap.size,1,none⟩ (.slice (some ⟨g2,0,none⟩) (hi.length+1) cp2))):=fun w5 g2 cp2 w6 h0 h1 h2 h3 => by
       have hbd:Below W4.heap.size W4 (w5.alloc (.cells #[.int .i64 (min (xl+n * y+y - 1+z) L)] 3)):=below_keep h0 (below_alloc _ _)
       have hp:=BoxO.put2 (HBO4.out.later hbd) (by decide) (H:=w5.heap.size+1) (by simp) h1 h2 h3
       have hge4:w1.heap.size≤W4.heap.size:=HBR4.out.size
       refine ⟨hp.1,hp.2,((HBR4.out.trans (hbd.mono hge4)).grown h2 (Nat.le_trans hge4 hbd.size) (fun k e => ?_)).setCell (p:=⟨w1.heap.size,1,none⟩) (Nat.le_refl _) _⟩
       exact (HBO4.out.own2.lt k e).1
      go_wp2
      have w5:IntKind.i64.wrap (xl+n * y+y)=xl+n * y+y:=IntWalk.i64_in _ (by omega)
      have w6:IntKind.i64.wrap (xl+n * y+y - 1)=xl+n * y+y - 1:=IntWalk.i64_in _ (by omega)
      have w7:IntKind.i64.wrap (xl+n * y+y - 1+z)=xl+n * y+y - 1+z:=IntWalk.i64_in _ (by omega)
      have hlh:hi.length≤900:=by have:=HLN.out.2; omega
      have hhl:hi.length+1≤1000:=by omega
      have hge4:w1.heap.size≤W4.heap.size:=HBR4.out.size
      go_region_law ((first
       | (refine step_append_lies _ (by rfl) _ _ 36 (by rfl) w1.heap.size 3 i0 (.int .i64 0) 1 8 Tryz.underlying36 hi0 hz0 hz1 hz2 rfl (by decide) v2 hi.length (hi.map (Value.int .i64)) (by rfl) ((HBO4.out.later hb6).own2.alloc _) ⟨wq.heap.size,0,none⟩ 1 1 [.int .i64 (min (xl+n * y+y - 1+z) L)] (by rfl) (by rfl) (cell_one_new _ _ _) (by simp [Value.oneCell']) (by omega) (by unfold maxLen; omega) (by omega) (by have:=hb6.size; simp; omega) (wq.heap.size+1) (by simp) ?_; intro g2 cp2 w8 hown hgrow hat hlt9; have HF3:=Lib.hid (FIN2.out wq g2 cp2 w8 hb6 hown hgrow hat); obtain ⟨⟨f0,f1,f2,f3⟩,-,-⟩:=HF3.out; clear hown hgrow hat hlt9)
       | (refine step_wp rfl ?_; unfold Oper.wp; go_simp; go_at_call 66; refine (HLX.out _).mono ?_; rintro e wq ⟨rfl,hb5⟩; have hb6:Below W4.heap.size W4 wq:=below_keep (Below.refl _ _).drew hb5; have f1q:=cell_later f1 hb6; have hq1:w1.heap.size<wq.heap.size:=Nat.lt_of_lt_of_le HBO4.out.tag.lt hb6.size; have hq2:w1.heap.size ≠ wq.heap.size:=Nat.ne_of_lt hq1)))
      all_goals
       have HF9:=Lib.hid HF3.out.2
       clear w5 w6 w7 f1q f0 f1 f2 f3
       go_wp2
       refine ⟨⟨i+1,_,_,_,_,by omega,by go_num,?_,HWN.out,HF9.out.1,HF9.out.2⟩,by show d.length - _<d.length - _; simp [intOf]; omega⟩
       exact ⟨by rw [List.length_append,HLN.out.1]; rfl,by rw [List.length_append,HLN.out.2]; rfl⟩
  ·obtain rfl:i=d.length:=by omega
   have hn:=HN.out
   rw [List.drop_length,widR] at hn
   ·have HWS:Hid (W9=some (lo,hi)):=hn.symm
    obtain ⟨⟨f0,f1,f2,f3⟩,ow1,ow2,hap,htg⟩:=HBO.out
    have h1:=RowZ.append_owns ow1 rfl
    have h2:=RowZ.append_owns ow2 rfl
    have H1:=Lib.hid h1
    have H2:=Lib.hid h2
    obtain ⟨q1,k1,e1,-⟩:=h1.ints.shape
    obtain ⟨q2,k2,e2,-⟩:=h2.ints.shape
    have hlt2:w.heap.size+1<wr.heap.size:=World.block_lt_of_cell? _ _ r0
    have hltg:w.heap.size+1<w1.heap.size:=by have:w.heap.size+2≤w1.heap.size:=HS1.out; omega
    have HNG:Hid (∀ (v:Value) (n:Nat) (xs:List Value),wr.ownsRow w1.heap.size 3 1 v n xs→∀ b,v.ownBlock=some b→b ≠ w.heap.size+1):=fun v n xs h b hb => by
     have:=(h.lt b hb).1
     omega
    have HK1:=Lib.hid (HNG.out v1 _ _ ow1)
    have HK2:=Lib.hid (HNG.out v2 _ _ ow2)
    clear hn hbo hb ow1 ow2 hap htg h1 h2
    subst e1 e2
    go_wp2
    refine bodyPost_ret (by simp [results,Tryz.results51,go_sem,r0,r1]; try rfl) rfl ?_
    rw [HR.out,HWS.out]
    have hk:∀ (x:Value) (l:List Int) (u u':Value),IntsO wr x l→(∀ b,x.ownBlock=some b→b ≠ w.heap.size+1)→IntsO ((wr.setCell ⟨w.heap.size+1,0,none⟩ u).setCell ⟨w.heap.size+1,1,none⟩ u') x l:=fun x l u u' h hne =>
     (h.grown (grown_setG wr (w.heap.size+1) 0 u) (fun r er e2 => by cases er; exact hne _ e2 rfl)).grown (grown_setG _ (w.heap.size+1) 1 u') (fun r er e2 => by cases er; exact hne _ e2 rfl)
    exact ⟨_,_,rfl,hk _ _ _ _ H1.out HK1.out,hk _ _ _ _ H2.out HK2.out,(HBW.out.setCell (by simp) _).setCell (by simp) _⟩
   ·intro a1 a2 a3 a4 a5 a6 a7 a8 h9
    cases h9
end Go.Proofs.YtdbnebhehiiakaaGreatDoor
