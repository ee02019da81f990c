/- space.Homes: the loop that makes the box of chunks. (region 14 printed by gen_homes.py) -/
import Derived.Deep.DeepCutAuto
import Derived.Deep.CutBlock
import Derived.Deep.RegionHeld3
import Derived.BigQuiet
import Derived.Test.YtdbnebhehiiakaaGreatDoorS12
import Derived.Test.YtdbnebhehiiakaaGreatDoorS13
import Derived.Test.YtdbnebhehiiakaaGreatDoorS8
import Derived.Test.YtdbnebhehiiakaaGreatDoorS9
namespace Go.Proofs.YtdbnebhehiiakaaGreatDoor
open Go.RowKit Go.Shelf
attribute [local go_sem] Oper.semAt_some
theorem rowsO_base {n₀ n:Nat} {w:World} {v:Value} {l:List (List Int)} (h:RowsO n w v l) (hn:n₀≤n):RowsO n₀ w v l:=by
 obtain ⟨vals,ho,hx⟩:=h
 refine ⟨vals,⟨ho.1,?_⟩,hx⟩
 rcases ho.2 with h | ⟨g,cap,cur,e,h1,h2⟩
 ·exact .inl h
 ·exact .inr ⟨g,cap,cur,e,Nat.le_trans hn h1,h2⟩
theorem belowX_app {W w9:World} {o:Obj} {v v':Value} {Bx N:Nat} (hg:(W.alloc o).grownBy w9 v.ownBlock) (hn:∀ k,k<N→k ≠ Bx→v.ownBlock ≠ some k) (hN:N≤W.heap.size):BelowX (some Bx) N W (w9.setCell ⟨Bx,0,none⟩ v'):=by
 have h1:=hg.size
 refine ⟨hg.os,hg.tape,hg.output,?_,fun k hk hc => ?_⟩
 ·simp [World.setCell] at h1 ⊢; omega
 ·have hne:k ≠ Bx:=fun e => hc (by rw [e])
  exact (Below.heap_setCell w9 ⟨Bx,0,none⟩ v' k hne).trans ((hg.block k (by simp; omega) (fun e => hn k hk hne e.symm)).trans (Below.heap_alloc W o k (by omega)))
theorem ptsX_row {w:World} {q:Option Addr} {n k:Nat} {l:List Int} (h:IntsO w (.slice q n k) l) {c:Nat} (hc:w.heap.size≤c):∀ g o n' k',Value.slice q n k=.slice (some ⟨g,o,none⟩) n' k'→some c ≠ some g:=by
 intro g o n' k' e e2
 injection e2 with e2
 injection e with e3
 have:=(h.tag g (by rw [e3]; rfl)).lt
 omega
set_option maxHeartbeats 32000000 in
set_option maxRecDepth 100000 in
theorem homes_core (d:List DimT) (l:LayT) (c:List Int) (vd vs vo vc:Value) (w:World) (hd:Dims w vd d) (hl:LayR w vs vo l) (hc:Ints w vc c) (hs:StrD d) (h:layoutE d l=0) (h2:c.length=d.length) (h3:ofL d c=true) :
  Calls Tryz.prog 24 #[vd,layV vs vo l,vc] w (RetPts (ptsL (homesL [] [] d l.sides l.over c).1 (homesL [] [] d l.sides l.over c).2) 0 w):=by
 have C:=Lib.hid (fun w1 (hb:Below w.heap.size w w1) => chunk_any d l c vd vs vo vc w1 (hd.later DimR.lasts hb) (hl.later hb) (hc.later IntR.lasts hb) hs)
 have hE:chunkE d l c=0:=by unfold chunkE; rw [if_neg (fun h' => h' h),if_neg (fun h' => h' h2),if_neg (by rw [h3]; decide)]
 have hQ:chunkQ d l c=chunkL d l.sides c:=if_pos hE
 rw [hE,hQ] at C
 have GL:=Lib.hid (layout_good h)
 have GO:=Lib.hid h3
 have HL2:=Lib.hid h2
 have hd4:=(dims_good GL.out.dims).2.1
 have HDD:=Lib.hid hd
 have HLL:=Lib.hid hl
 have HCC:=Lib.hid hc
 obtain ⟨q0,hq0⟩:∃ q,q=chunkL d l.sides c:=⟨_,rfl⟩
 have hql:q0.length=d.length:=by rw [hq0]; exact chunkL_length GL.out.sides h2
 have HQL:=Lib.hid hql
 have HQ0:=Lib.hid hq0
 rw [← hq0] at C
 obtain ⟨p1,cap1,rfl,-⟩:=hd.shape
 obtain ⟨p2,cap2,rfl,-⟩:=hl.sides.shape
 obtain ⟨p3,cap3,rfl,-⟩:=hl.over.shape
 obtain ⟨p4,cap4,rfl,c4,c4'⟩:=hc.shape
 obtain ⟨i0,hi0,hz0,hz1,hz2⟩:=info_parts infoZ
 have HBX:=Lib.hid (LayB.made w (.slice p2 l.sides.length cap2) (.slice p3 l.over.length cap3) l 38)
 obtain ⟨H9,hH9⟩:∃ H9,H9=homesL [] [] d l.sides l.over c:=⟨_,rfl⟩
 rw [← hH9]
 have HH9:=Lib.hid hH9
 obtain ⟨R,hR⟩:∃ R:Ending→World→Prop,R=RetPts (ptsL H9.1 H9.2) 0 w:=⟨_,rfl⟩
 rw [← hR]
 have HR:=Lib.hid hR
 have e1:=GL.out.sides
 have e2:=GL.out.over
 obtain ⟨ss,oo,o,t,f,c'⟩:=l
 simp only at e1 e2 HH9 HQ0
 simp only [h2,e1,e2] at C HBX HLL HCC c4 ⊢
 clear hd hl hc hs h h2 h3 e1 e2 hH9 hR hq0 hE hQ
 refine (callsIn_wide (n:=5)).1 ?_
 refine callsIn_of_wp_marks Tryz.func24 rfl trivial ?_ rfl
 refine wpIn_wide.2 ?_
 simp only [Tryz.ntmps24,List.size_toArray,List.length_cons,List.length_nil,Nat.reduceAdd,Nat.reduceSub,Array.replicate_succ,Array.replicate_zero,List.push_toArray,List.append_toArray,List.nil_append,List.cons_append]
 go_wp2_with fail
 refine (C.out _ (below_alloc _ _)).mono ?_
 rintro e w1 ⟨v,rfl,hq,hb⟩
 have HB:=Lib.hid ((below_alloc w (.cells #[.slice p2 d.length cap2,.slice p3 d.length cap3,.int .i64 o,.int .i64 t,.int .i64 f,.int .i64 c'] 38)).trans (hb.mono (by simp)))
 have HS1:Hid (w.heap.size+1≤w1.heap.size):=by show _≤_; have:=hb.size; simp at this; omega
 have HLB:=Lib.hid (HBX.out w1 (hb.mono (by simp)))
 have HQR:=Lib.hid hq
 obtain ⟨a9,c9,e9,hc9,hc9'⟩:=hq.ints.shape
 rw [hql] at e9 hc9
 subst e9
 clear hb C hq HBX hql
 go_wp2
 have HBO:Hid (BoxO w1.heap.size w1.heap.size (w1.alloc (.cells #[.slice none 0 0,.slice none 0 0] 44)) (.slice none 0 0) (.slice none 0 0) [] []) :=
  ⟨ResB.made w1 _,World.ownsRow_nil _ _ _ _,World.ownsRow_nil _ _ _ _,(fun b hb => by cases hb),⟨_,(0,0),World.alloc_heap_new w1 _⟩⟩
 have HAB:=Lib.hid (below_alloc w1 (.cells #[.slice none 0 0,.slice none 0 0] 44))
 go_loopw [32] (fun iv wr => ∃ (i:Nat) (v1 v2:Value) (lo hi:List Int),i≤d.length∧iv=.int .i64 (i:Nat)∧Hid (lo.length=i∧hi.length=i∧HomP lo hi)∧Hid (homesL lo hi (d.drop i) (ss.drop i) (oo.drop i) (c.drop i)=H9)∧BoxO w1.heap.size w1.heap.size wr v1 v2 lo hi∧Below w1.heap.size w1 wr) (fun iv _ => d.length - (intOf iv).toNat)
 case atStart => exact ⟨0,_,_,[],[],Nat.zero_le _,rfl,⟨rfl,rfl,fun i a b h => by simp at h⟩,HH9.out.symm,HBO.out,HAB.out⟩
 case round =>
  clear HBO HAB
  obtain ⟨i,v1,v2,lo,hi,hi',rfl,HLN,HN,hbo,hb⟩:=hrel
  have HBO:=Lib.hid hbo
  have HBR:=Lib.hid hb
  have HBW:=Lib.hid (HB.out.trans (hb.mono (by have:=HS1.out; omega)))
  obtain ⟨b0,b1,-⟩:=HLB.out
  have b0:=cell_later b0 hb
  have b1:=cell_later b1 hb
  by_cases hlt:i<d.length
  ·obtain ⟨gd,od,x,ea,hx,hr⟩:=Ls.at HDD.out i hlt
   obtain ⟨gs,os,y,ea',hy,hr'⟩:=Ls.at HLL.out.sides i (by rw [GL.out.sides]; exact hlt)
   obtain ⟨go,oo',z,ez,hz,hrz⟩:=Ls.at HLL.out.over i (by rw [GL.out.over]; exact hlt)
   obtain ⟨gc,oc,n,ea'',hn,hr''⟩:=Ls.at HCC.out i (by rw [HL2.out]; exact hlt)
   obtain ⟨gq,oq,k,eq,hk,hrq⟩:=Ls.at (show Ints w1 _ _ from by have:=HQR.out.ints; exact this) i (by rw [HQL.out]; exact hlt)
   subst ea ea' ez ea'' eq
   have hkq:k=(n - x.lo) / y:=by
    have:=chunkL_get hx hy hn
    rw [← HQ0.out] at this
    exact Option.some.inj (hk.symm.trans this)
   have hr:=DimR.lasts _ _ _ _ _ hr HBW.out
   have hr':=IntR.lasts _ _ _ _ _ hr' HBW.out
   have hrz:=IntR.lasts _ _ _ _ _ hrz HBW.out
   have hr'':=IntR.lasts _ _ _ _ _ hr'' HBW.out
   have hrq:=IntR.lasts _ _ _ _ _ hrq HBR.out
   rw [Nat.mul_one] at hr' hrz hr'' hrq
   unfold IntR at hr' hrz hr'' hrq
   obtain ⟨x0,x1,x2⟩:=hr
   have gsd:=GL.out.good i y z hy hz
   have gx:=(dims_good GL.out.dims).2.2 x (List.mem_of_getElem? hx)
   have gl:=gx.last
   have gof:=ofL_good GO.out hx hn
   have hW:=HN.out
   rw [homesL_drop hx hy hz hn,← hkq] at hW
   have HW:=Lib.hid hW
   have y1:=gsd.s1
   have y64:=gsd.s2
   have z0:=gsd.o1
   have z16:=gsd.o2
   have g1:=gx.lo
   have g2:=gx.lo'
   have g3:=gl.1
   have g4:=gl.2.1
   have g5:=gof.1
   have g6:=gof.2
   have HLX:=Lib.hid (fun w9 => last_any x w9)
   obtain ⟨L,hL⟩:∃ L,L=x.last:=⟨_,rfl⟩
   rw [← hL] at HW g3 g4 g6 HLX
   obtain ⟨nm,xl,xh⟩:=x
   simp only at x0 x1 x2 g1 g2 g3 g5 hkq HW HLX
   have ib0:(0:Int)≤(i:Int):=by omega
   have ib1:(i:Int)<(d.length:Int):=by omega
   have HKC:Hid (∀ w',Below wr.heap.size wr w'→w'.cell? ⟨gd,od+i * 3,none⟩=some (strV nm)∧w'.cell? ⟨gd,od+i * 3+1,none⟩=some (.int .i64 xl)∧w'.cell? ⟨gd,od+i * 3+2,none⟩=some (.int .i64 xh)∧Below wr.heap.size wr w'):=fun w' hb' => ⟨cell_later x0 hb',cell_later x1 hb',cell_later x2 hb',hb'⟩
   obtain ⟨O,hO⟩:∃ O,O=n - xl:=⟨_,rfl⟩
   have hof:IntKind.i64.wrap (n - xl)=O:=by rw [hO]; exact IntWalk.i64_in _ (by omega)
   have o1:0≤O:=by omega
   have o2:O≤2147483648:=by omega
   have o3:O≤L - xl:=by omega
   rw [← hO] at hkq HW
   have k0:0≤k:=by rw [hkq]; exact Int.ediv_nonneg (by omega) (by omega)
   have k1:k≤O:=by rw [hkq]; exact Int.ediv_le_self _ (by omega)
   have k2:k * y≤O:=by rw [hkq]; exact Int.ediv_mul_le _ (by omega)
   have k3:0≤k * y:=Int.mul_nonneg k0 (by omega)
   have kq:k≤(L - xl) / y:=by rw [hkq]; exact Int.ediv_le_ediv (by omega) o3
   have hsub:IntKind.i64.wrap (L - xl)=L - xl:=IntWalk.i64_in _ (by omega)
   have hdiv:(L - xl).tdiv y=(L - xl) / y:=Int.tdiv_eq_ediv_of_nonneg (by omega)
   have hd0:0≤(L - xl) / y:=Int.ediv_nonneg (by omega) (by omega)
   have hd1:(L - xl) / y≤L - xl:=Int.ediv_le_self _ (by omega)
   have hwr:IntKind.i64.wrap ((L - xl) / y)=(L - xl) / y:=IntWalk.i64_in _ (by omega)
   have hyne:¬ y=0:=by omega
   obtain ⟨Q,hQ⟩:∃ Q,Q=(L - xl) / y:=⟨_,rfl⟩
   rw [← hQ] at hdiv hwr hd0 hd1 kq HW
   obtain ⟨P,hP⟩:∃ P,P=k * y:=⟨_,rfl⟩
   have hP1:(k+1) * y=P+y:=by rw [hP,Int.add_mul,Int.one_mul]
   have HP1:=Lib.hid hP1
   have HPE:=Lib.hid hP
   have w1p:IntKind.i64.wrap (k * y)=P:=by rw [hP]; exact IntWalk.i64_in _ (by omega)
   have w2p:IntKind.i64.wrap (P+z)=P+z:=IntWalk.i64_in _ (by omega)
   have W3:Hid (IntKind.i64.wrap (k - 1)=k - 1):=IntWalk.i64_in _ (by omega)
   have W4:Hid (IntKind.i64.wrap (k+1)=k+1):=IntWalk.i64_in _ (by omega)
   have W5:Hid (IntKind.i64.wrap ((k+1) * y)=P+y):=by show _=_; rw [hP1]; exact IntWalk.i64_in _ (by omega)
   have W6:Hid (IntKind.i64.wrap (O+z)=O+z):=IntWalk.i64_in _ (by omega)
   have HWD:=Lib.hid (And.intro hsub (And.intro hdiv hwr))
   rw [← hP] at k2 k3
   have HK0:=Lib.hid (And.intro k0 k1)
   clear hb hbo hx hy hz hn hk hkq hW gsd gx gl gof hL hQ hO hP hP1 hsub hdiv hwr
   clear x0 x2
   have HOF:=Lib.hid hof
   go_upto_region 8 with (fail)
   let KF:(Ending→World→Prop)→Exit→Act→World→Prop:=bodyPost Tryz.prog Tryz.f24
   go_cut [13,14,15] (fun a b c wx => a=.int .i64 O∧b=.int .i64 y∧c=.int .i64 z∧Below wr.heap.size wr wx)
   case first =>
    go_quiet (fail)
    have HBQ:=Lib.hid (below_drewN' wr nq)
    go_wp2
    go_meet
    exact ⟨rfl,rfl,rfl,HBQ.out⟩
   case rest =>
    obtain ⟨rfl,rfl,rfl,hbc⟩:=hcut
    obtain ⟨Wa,hWa⟩:∃ Wa,Wa=wc:=⟨_,rfl⟩
    rw [← hWa] at hbc ⊢
    have HBA:=Lib.hid hbc
    clear hWa hbc x1 b0 b1 hof
    go_upto_region 10 with (fail)
    go_cut [69] (fun a wx => a=.bool (decide (0<k∧O<P+z))∧wx=Wa)
    case first =>
     by_cases hA:0<k
     ·by_cases hB:O<P+z
      ·go_wp2
       go_meet
       exact ⟨by rw [decide_eq_true (And.intro hA hB)],rfl⟩
      ·go_wp2
       go_meet
       exact ⟨by rw [decide_eq_false (by omega)],rfl⟩
     ·go_wp2
      go_meet
      exact ⟨by rw [decide_eq_false (by omega)],rfl⟩
    case rest =>
     obtain ⟨rfl,rfl⟩:=hcut
     clear w1p w2p
     go_upto_if 69 with (fail)
     go_cut [16] (fun a wx => a=.int .i64 (homeF k O y z)∧wx=wc)
     case first =>
      by_cases hA:0<k∧O<P+z
      ·have hd:decide (0<k∧O<P+z)=true:=decide_eq_true hA
       have hh:homeF k O y z=k - 1:=by unfold homeF; rw [← HPE.out,if_pos hA]
       have w3:=W3.out
       rw [hd]
       go_wp2
       go_meet
       exact ⟨by rw [hh],rfl⟩
      ·have hd:decide (0<k∧O<P+z)=false:=decide_eq_false hA
       have hh:homeF k O y z=k:=by unfold homeF; rw [← HPE.out,if_neg hA]
       rw [hd]
       go_wp2
       go_meet
       exact ⟨by rw [hh],rfl⟩
     case rest =>
      obtain ⟨rfl,rfl⟩:=hcut
      obtain ⟨F,hF⟩:∃ F,F=homeF k O y z:=⟨_,rfl⟩
      have HF:=Lib.hid hF
      rw [← hF] at HW ⊢
      obtain ⟨Wb,hWb⟩:∃ Wb,Wb=wc:=⟨_,rfl⟩
      rw [← hWb] at HBA ⊢
      clear hF hWb
      obtain ⟨x0,x1,x2,-⟩:=HKC.out Wb HBA.out
      have HKB:Hid (∀ w',Below Wb.heap.size Wb w'→w'.cell? ⟨gd,od+i * 3,none⟩=some (strV nm)∧w'.cell? ⟨gd,od+i * 3+1,none⟩=some (.int .i64 xl)∧w'.cell? ⟨gd,od+i * 3+2,none⟩=some (.int .i64 xh)∧Below Wb.heap.size Wb w'):=fun w' hb' => ⟨cell_later x0 hb',cell_later x1 hb',cell_later x2 hb',hb'⟩
      have w4:=W4.out
      have w5:=W5.out
      have w6:=W6.out
      obtain ⟨hsub,hdiv,hwr⟩:=HWD.out
      go_upto_region 12 with (fail)
      go_cut [96] (fun a wx => a=.bool (decide (P+y≤O+z∧k<Q))∧Below Wb.heap.size Wb wx)
      case first =>
       by_cases hA:P+y≤O+z
       ·have hd:decide (P+y≤O+z)=true:=decide_eq_true hA
        go_wp2
        go_region_held3 (fun w' => w'.cell? ⟨gd,od+i * 3,none⟩=some (strV nm)∧w'.cell? ⟨gd,od+i * 3+1,none⟩=some (.int .i64 xl)∧w'.cell? ⟨gd,od+i * 3+2,none⟩=some (.int .i64 xh)∧Below Wb.heap.size Wb w')
         (first | exact HKB.out _ (Below.refl _ _).drew | exact HKB.out _ (by assumption))
         ((go_at_call 66; refine (HLX.out _).mono ?_; rintro e w2 ⟨rfl,hb2⟩; have hb3:Below Wb.heap.size Wb w2:=below_keep (Below.refl _ _).drew hb2))
        all_goals
         have HB3:=Lib.hid hb3
         clear hb2 hb3
         go_wp2
         go_meet
         exact ⟨by simp [hA],HB3.out⟩
       ·have hd:decide (P+y≤O+z)=false:=decide_eq_false hA
        go_quiet (fail)
        have HBQ:=Lib.hid (below_drewN' Wb nq)
        go_wp2
        go_meet
        exact ⟨by rw [decide_eq_false (by omega)],HBQ.out⟩
      case rest =>
       obtain ⟨rfl,hbc⟩:=hcut
       obtain ⟨Wc,hWc⟩:∃ Wc,Wc=wc:=⟨_,rfl⟩
       rw [← hWc] at hbc ⊢
       have HBC:=Lib.hid (below_keep HBA.out hbc)
       clear hWc hbc x0 x1 x2 hsub hdiv hwr w4 w5 w6 HKB
       go_upto_if 96 with (fail)
       go_cut [17] (fun a wx => a=.int .i64 (homeT Q k O y z)∧wx=Wc)
       case first =>
        by_cases hA:P+y≤O+z∧k<Q
        ·have hd:decide (P+y≤O+z∧k<Q)=true:=decide_eq_true hA
         have hh:homeT Q k O y z=k+1:=by unfold homeT; rw [HP1.out,if_pos hA]
         have w4:=W4.out
         rw [hd]
         go_wp2
         go_meet
         exact ⟨by rw [hh],rfl⟩
        ·have hd:decide (P+y≤O+z∧k<Q)=false:=decide_eq_false hA
         have hh:homeT Q k O y z=k:=by unfold homeT; rw [HP1.out,if_neg hA]
         rw [hd]
         go_wp2
         go_meet
         exact ⟨by rw [hh],rfl⟩
       case rest =>
        obtain ⟨rfl,rfl⟩:=hcut
        obtain ⟨G,hG⟩:∃ G,G=homeT Q k O y z:=⟨_,rfl⟩
        have HG:=Lib.hid hG
        rw [← hG] at HW ⊢
        obtain ⟨Wd,hWd⟩:∃ Wd,Wd=wc:=⟨_,rfl⟩
        rw [← hWd] at HBC ⊢
        clear hG hWd
        have HB0:Hid (BoxA w1.heap.size w1.heap.size Wd v1 v2 v1 v2 lo hi):=(BoxA.of HBO.out).later HBC.out
        have HNX:Hid (∀ wx,Below w1.heap.size Wd wx→w1.heap.size≤wx.heap.size):=fun wx h => Nat.le_trans (Nat.le_trans HBR.out.size HBC.out.size) h.size
        have HSZ:Hid (∀ wx,Below w1.heap.size Wd wx→w1.heap.size<wx.heap.size):=fun wx h => Nat.lt_of_lt_of_le HB0.out.tag.lt h.size
        have HV1:Hid (∀ wx,Below w1.heap.size Wd wx→v1.ownBlock ≠ some wx.heap.size):=fun wx h e => by
         have:=(HB0.out.own1.lt _ e).2
         have:=h.size
         omega
        have HGN:Hid (w1.heap.size≤w1.heap.size):=Nat.le_refl _
        have hll:lo.length≤900:=by have:=HLN.out.1; omega
        have hlh:hi.length≤900:=by have:=HLN.out.2.1; omega
        go_upto_region 14 with (fail)
        refine wp_region_inv [some 99,some 100,some 101,some 102,some 103,some 104,some 105,some 106,some 107,some 108,some 109,none,some 110,none] (HmJ w1.heap.size w1.heap.size Wd v1 v2 lo hi F G) rfl (by kernel_rfl) (by kernel_rfl) (by kernel_rfl) (by kernel_rfl) ?_ ?_ ?_
        ·exact { below:=(Below.refl _ _).drew,res:=fun _ _ => (HB0.out.later (Below.refl _ _).drew).res,s0:=fun _ => HB0.out.later (Below.refl _ _).drew,s1:=fun h _ => Bool.noConfusion h,s2:=fun h _ => Bool.noConfusion h,s3:=fun h _ => Bool.noConfusion h,s4:=fun h => Bool.noConfusion h,f0:=fun h => Bool.noConfusion h,f1:=fun h => Bool.noConfusion h,f2:=fun h => Bool.noConfusion h,f3:=fun h _ => Bool.noConfusion h,f4:=fun h => Bool.noConfusion h,f5:=fun h => Bool.noConfusion h,f6:=fun h => Bool.noConfusion h,f7:=fun h => Bool.noConfusion h,f8:=fun h _ => Bool.noConfusion h,f9:=fun h => Bool.noConfusion h,f10:=fun h => Bool.noConfusion h,f12:=fun h => Bool.noConfusion h }
        ·intro i9 op9 ho
         have hi9:i9<14:=(Array.getElem?_eq_some_iff.1 ho).1
         match i9,hi9 with
         | 0,_ =>
          obtain rfl:=Option.some.inj ho
          intro a9 dn vals wx hJ0 hdi hde hdj hev hsl hun
          have hJ:=Lib.hid hJ0
          rw [if_pos (wanted_none rfl)]
          have f10:(a9.tmps[10]?).getD undef=.pointer (some ⟨w1.heap.size,0,none⟩):=hev 10 (by kernel_rfl)
          clear hde hdj hev hsl hun hJ0 hdi
          go_simp
          exact { below:=hJ.out.below,res:=fun h h2 => hJ.out.res h h2,s0:=fun h => hJ.out.s0 h,s1:=fun h h2 => hJ.out.s1 h h2,s2:=fun h h2 => hJ.out.s2 h h2,s3:=fun h h2 => hJ.out.s3 h h2,s4:=fun h => hJ.out.s4 h,f0:=fun _ => rfl,f1:=fun h => hJ.out.f1 h,f2:=fun h => hJ.out.f2 h,f3:=fun h h2 => hJ.out.f3 h h2,f4:=fun h => hJ.out.f4 h,f5:=fun h => hJ.out.f5 h,f6:=fun h => hJ.out.f6 h,f7:=fun h => hJ.out.f7 h,f8:=fun h h2 => hJ.out.f8 h h2,f9:=fun h => hJ.out.f9 h,f10:=fun h => hJ.out.f10 h,f12:=fun h => hJ.out.f12 h }
         | 1,_ =>
          obtain rfl:=Option.some.inj ho
          intro a9 dn vals wx hJ0 hdi hde hdj hev hsl hun
          have hJ:=Lib.hid hJ0
          rw [if_pos (wanted_none rfl)]
          have f99:(a9.tmps[99]?).getD undef=.pointer (some ⟨w1.heap.size,0,none⟩):=(hsl 0 99 (hde 0 _ rfl rfl) rfl).trans (hJ.out.f0 (hde 0 _ rfl rfl))
          have n4:Hid (dn 4=false):=hdj 4 0 _ _ rfl rfl rfl rfl
          obtain ⟨k0,k1,k2,k3⟩:=(hJ.out.s0 n4.out).res
          clear hde hdj hev hsl hun hJ0 hdi
          clear n4
          go_simp
          exact { below:=hJ.out.below,res:=fun h h2 => hJ.out.res h h2,s0:=fun h => hJ.out.s0 h,s1:=fun h h2 => hJ.out.s1 h h2,s2:=fun h h2 => hJ.out.s2 h h2,s3:=fun h h2 => hJ.out.s3 h h2,s4:=fun h => hJ.out.s4 h,f0:=fun h => hJ.out.f0 h,f1:=fun _ => rfl,f2:=fun h => hJ.out.f2 h,f3:=fun h h2 => hJ.out.f3 h h2,f4:=fun h => hJ.out.f4 h,f5:=fun h => hJ.out.f5 h,f6:=fun h => hJ.out.f6 h,f7:=fun h => hJ.out.f7 h,f8:=fun h h2 => hJ.out.f8 h h2,f9:=fun h => hJ.out.f9 h,f10:=fun h => hJ.out.f10 h,f12:=fun h => hJ.out.f12 h }
         | 2,_ =>
          obtain rfl:=Option.some.inj ho
          intro a9 dn vals wx hJ0 hdi hde hdj hev hsl hun
          have hJ:=Lib.hid hJ0
          rw [if_pos (wanted_none rfl)]
          have f16:(a9.tmps[16]?).getD undef=.int .i64 F:=hev 16 (by kernel_rfl)
          clear hde hdj hev hsl hun hJ0 hdi
          go_simp
          exact { below:=hJ.out.below,res:=fun h h2 => hJ.out.res h h2,s0:=fun h => hJ.out.s0 h,s1:=fun h h2 => hJ.out.s1 h h2,s2:=fun h h2 => hJ.out.s2 h h2,s3:=fun h h2 => hJ.out.s3 h h2,s4:=fun h => hJ.out.s4 h,f0:=fun h => hJ.out.f0 h,f1:=fun h => hJ.out.f1 h,f2:=fun _ => rfl,f3:=fun h h2 => hJ.out.f3 h h2,f4:=fun h => hJ.out.f4 h,f5:=fun h => hJ.out.f5 h,f6:=fun h => hJ.out.f6 h,f7:=fun h => hJ.out.f7 h,f8:=fun h h2 => hJ.out.f8 h h2,f9:=fun h => hJ.out.f9 h,f10:=fun h => hJ.out.f10 h,f12:=fun h => hJ.out.f12 h }
         | 3,_ =>
          obtain rfl:=Option.some.inj ho
          intro a9 dn vals wx hJ0 hdi hde hdj hev hsl hun
          have hJ:=Lib.hid hJ0
          rw [if_pos (wanted_none rfl)]
          have f101:(a9.tmps[101]?).getD undef=.int .i64 F:=(hsl 2 101 (hde 0 _ rfl rfl) rfl).trans (hJ.out.f2 (hde 0 _ rfl rfl))
          have HLT:Hid (w1.heap.size<wx.heap.size):=HSZ.out wx hJ.out.below
          clear hde hdj hev hsl hun hJ0 hdi
          go_simp
          exact { below:=(hJ.out.below.trans (((below_alloc _ _)).mono (HNX.out wx hJ.out.below))),res:=fun h h2 => (hJ.out.res h h2).later (below_alloc _ _) HLT.out,s0:=fun h => (hJ.out.s0 h).later (below_alloc _ _),s1:=fun h h2 => (hJ.out.s1 h h2).later (below_alloc _ _),s2:=fun h h2 => (hJ.out.s2 h h2).later (below_alloc _ _),s3:=fun h h2 => (hJ.out.s3 h h2).later (below_alloc _ _),s4:=fun h => (hJ.out.s4 h).later (below_alloc _ _),f0:=fun h => hJ.out.f0 h,f1:=fun h => hJ.out.f1 h,f2:=fun h => hJ.out.f2 h,f3:=fun _ _ => ⟨wx.heap.size,rfl,by rw [World.cell?_alloc_at _ _ _ _ rfl]; rfl⟩,f4:=fun h => hJ.out.f4 h,f5:=fun h => hJ.out.f5 h,f6:=fun h => hJ.out.f6 h,f7:=fun h => hJ.out.f7 h,f8:=fun h h2 => let ⟨q,q1,q2,q3⟩:=hJ.out.f8 h h2; ⟨q,q1,cell_later q2 (below_alloc _ _),q3⟩,f9:=fun h => hJ.out.f9 h,f10:=fun h => hJ.out.f10 h,f12:=fun h => hJ.out.f12 h }
         | 4,_ =>
          obtain rfl:=Option.some.inj ho
          intro a9 dn vals wx hJ0 hdi hde hdj hev hsl hun
          have hJ:=Lib.hid hJ0
          rw [if_pos (wanted_none rfl)]
          have f100:(a9.tmps[100]?).getD undef=v1:=(hsl 1 100 (hde 0 _ rfl rfl) rfl).trans (hJ.out.f1 (hde 0 _ rfl rfl))
          obtain ⟨b3,e3,q3⟩:=hJ.out.f3 (hde 1 _ rfl rfl) hdi
          have f102:(a9.tmps[102]?).getD undef=.slice (some ⟨b3,0,none⟩) 1 1:=(hsl 3 102 (hde 1 _ rfl rfl) rfl).trans e3
          have n9:Hid (dn 9=false):=hdj 9 2 _ _ rfl rfl rfl rfl
          have n11:Hid (dn 11=false):=hdj 11 1 _ _ rfl rfl rfl rfl
          have n13:Hid (dn 13=false):=hdj 13 7 _ _ rfl rfl rfl rfl
          have hS:=hJ.out.s0 hdi
          obtain ⟨g9,cap9,w9,hrun,hown,hgr,hat,hlt9⟩:=run_append_lies (P:=Tryz.prog) (w:=wx) 36 36 w1.heap.size 3 i0 (.int .i64 0) 1 8 Tryz.underlying36 hi0 hz0 hz1 hz2 rfl (by decide) v1 lo.length _ hS.own1 ⟨b3,0,none⟩ 1 1 [.int .i64 F] rfl (fun j u hj => by
           match j,hj with
           | 0,hj => simp at hj; subst hj; exact q3) (fun u hu => by simp at hu; subst hu; rfl) (by decide) (by unfold maxLen; omega) (by omega) (HNX.out wx hJ.out.below) _ rfl
          have hS2:=hS.app1 (by decide) hown hgr hat
          have HB2:Hid (Below w1.heap.size Wd w9):=hJ.out.below.grown hgr (HNX.out wx hJ.out.below) (fun k e => (hS.own1.lt k e).1)
          have HRUN:=Lib.hid hrun
          have HS2:=Lib.hid hS2
          have HGR:=Lib.hid hgr
          clear hde hdj hev hsl hun hJ0 hdi
          clear hrun hown hgr hat hlt9 hS hS2 q3 e3
          refine does_append2 (s:=.tmp 100) (x:=.tmp 102) (T:=36) rfl (by rw [eval_tmp]; exact f100) (by rw [eval_tmp]; exact f102) HRUN.out ?_
          exact { below:=HB2.out,res:=fun _ _ => HS2.out.res,s0:=fun h => Bool.noConfusion h,s1:=fun _ _ => HS2.out,s2:=fun h _ => Bool.noConfusion ((show dn 9=true from h).symm.trans n9.out),s3:=fun h _ => Bool.noConfusion ((show dn 11=true from h).symm.trans n11.out),s4:=fun h => Bool.noConfusion ((show dn 13=true from h).symm.trans n13.out),f0:=fun h => hJ.out.f0 h,f1:=fun h => hJ.out.f1 h,f2:=fun h => hJ.out.f2 h,f3:=fun _ h => Bool.noConfusion h,f4:=fun _ => ⟨_,_,rfl⟩,f5:=fun h => hJ.out.f5 h,f6:=fun h => hJ.out.f6 h,f7:=fun h => hJ.out.f7 h,f8:=fun h h2 => let ⟨q,q1,q2,q3⟩:=hJ.out.f8 h h2; ⟨q,q1,HGR.out.cell q2 (fun e => q3 e.symm),q3⟩,f9:=fun h => hJ.out.f9 h,f10:=fun h => hJ.out.f10 h,f12:=fun h => hJ.out.f12 h }
         | 5,_ =>
          obtain rfl:=Option.some.inj ho
          intro a9 dn vals wx hJ0 hdi hde hdj hev hsl hun
          have hJ:=Lib.hid hJ0
          rw [if_pos (wanted_none rfl)]
          have f10:(a9.tmps[10]?).getD undef=.pointer (some ⟨w1.heap.size,0,none⟩):=hev 10 (by kernel_rfl)
          clear hde hdj hev hsl hun hJ0 hdi
          go_simp
          exact { below:=hJ.out.below,res:=fun h h2 => hJ.out.res h h2,s0:=fun h => hJ.out.s0 h,s1:=fun h h2 => hJ.out.s1 h h2,s2:=fun h h2 => hJ.out.s2 h h2,s3:=fun h h2 => hJ.out.s3 h h2,s4:=fun h => hJ.out.s4 h,f0:=fun h => hJ.out.f0 h,f1:=fun h => hJ.out.f1 h,f2:=fun h => hJ.out.f2 h,f3:=fun h h2 => hJ.out.f3 h h2,f4:=fun h => hJ.out.f4 h,f5:=fun _ => rfl,f6:=fun h => hJ.out.f6 h,f7:=fun h => hJ.out.f7 h,f8:=fun h h2 => hJ.out.f8 h h2,f9:=fun h => hJ.out.f9 h,f10:=fun h => hJ.out.f10 h,f12:=fun h => hJ.out.f12 h }
         | 6,_ =>
          obtain rfl:=Option.some.inj ho
          intro a9 dn vals wx hJ0 hdi hde hdj hev hsl hun
          have hJ:=Lib.hid hJ0
          rw [if_pos (wanted_none rfl)]
          have f104:(a9.tmps[104]?).getD undef=.pointer (some ⟨w1.heap.size,1,none⟩):=(hsl 5 104 (hde 0 _ rfl rfl) rfl).trans (hJ.out.f5 (hde 0 _ rfl rfl))
          have n11:Hid (dn 11=false):=hdj 11 9 _ _ rfl rfl rfl rfl
          have n13:Hid (dn 13=false):=hdj 13 9 _ _ rfl rfl rfl rfl
          obtain ⟨k0,k1,k2,k3⟩:=hJ.out.res n11.out n13.out
          clear hde hdj hev hsl hun hJ0 hdi
          clear n11 n13
          go_simp
          exact { below:=hJ.out.below,res:=fun h h2 => hJ.out.res h h2,s0:=fun h => hJ.out.s0 h,s1:=fun h h2 => hJ.out.s1 h h2,s2:=fun h h2 => hJ.out.s2 h h2,s3:=fun h h2 => hJ.out.s3 h h2,s4:=fun h => hJ.out.s4 h,f0:=fun h => hJ.out.f0 h,f1:=fun h => hJ.out.f1 h,f2:=fun h => hJ.out.f2 h,f3:=fun h h2 => hJ.out.f3 h h2,f4:=fun h => hJ.out.f4 h,f5:=fun h => hJ.out.f5 h,f6:=fun _ => rfl,f7:=fun h => hJ.out.f7 h,f8:=fun h h2 => hJ.out.f8 h h2,f9:=fun h => hJ.out.f9 h,f10:=fun h => hJ.out.f10 h,f12:=fun h => hJ.out.f12 h }
         | 7,_ =>
          obtain rfl:=Option.some.inj ho
          intro a9 dn vals wx hJ0 hdi hde hdj hev hsl hun
          have hJ:=Lib.hid hJ0
          rw [if_pos (wanted_none rfl)]
          have f17:(a9.tmps[17]?).getD undef=.int .i64 G:=hev 17 (by kernel_rfl)
          clear hde hdj hev hsl hun hJ0 hdi
          go_simp
          exact { below:=hJ.out.below,res:=fun h h2 => hJ.out.res h h2,s0:=fun h => hJ.out.s0 h,s1:=fun h h2 => hJ.out.s1 h h2,s2:=fun h h2 => hJ.out.s2 h h2,s3:=fun h h2 => hJ.out.s3 h h2,s4:=fun h => hJ.out.s4 h,f0:=fun h => hJ.out.f0 h,f1:=fun h => hJ.out.f1 h,f2:=fun h => hJ.out.f2 h,f3:=fun h h2 => hJ.out.f3 h h2,f4:=fun h => hJ.out.f4 h,f5:=fun h => hJ.out.f5 h,f6:=fun h => hJ.out.f6 h,f7:=fun _ => rfl,f8:=fun h h2 => hJ.out.f8 h h2,f9:=fun h => hJ.out.f9 h,f10:=fun h => hJ.out.f10 h,f12:=fun h => hJ.out.f12 h }
         | 8,_ =>
          obtain rfl:=Option.some.inj ho
          intro a9 dn vals wx hJ0 hdi hde hdj hev hsl hun
          have hJ:=Lib.hid hJ0
          rw [if_pos (wanted_none rfl)]
          have f106:(a9.tmps[106]?).getD undef=.int .i64 G:=(hsl 7 106 (hde 0 _ rfl rfl) rfl).trans (hJ.out.f7 (hde 0 _ rfl rfl))
          have HLT:Hid (w1.heap.size<wx.heap.size):=HSZ.out wx hJ.out.below
          clear hde hdj hev hsl hun hJ0 hdi
          go_simp
          exact { below:=(hJ.out.below.trans (((below_alloc _ _)).mono (HNX.out wx hJ.out.below))),res:=fun h h2 => (hJ.out.res h h2).later (below_alloc _ _) HLT.out,s0:=fun h => (hJ.out.s0 h).later (below_alloc _ _),s1:=fun h h2 => (hJ.out.s1 h h2).later (below_alloc _ _),s2:=fun h h2 => (hJ.out.s2 h h2).later (below_alloc _ _),s3:=fun h h2 => (hJ.out.s3 h h2).later (below_alloc _ _),s4:=fun h => (hJ.out.s4 h).later (below_alloc _ _),f0:=fun h => hJ.out.f0 h,f1:=fun h => hJ.out.f1 h,f2:=fun h => hJ.out.f2 h,f3:=fun h h2 => let ⟨q,q1,q2⟩:=hJ.out.f3 h h2; ⟨q,q1,cell_later q2 (below_alloc _ _)⟩,f4:=fun h => hJ.out.f4 h,f5:=fun h => hJ.out.f5 h,f6:=fun h => hJ.out.f6 h,f7:=fun h => hJ.out.f7 h,f8:=fun _ _ => ⟨wx.heap.size,rfl,by rw [World.cell?_alloc_at _ _ _ _ rfl]; rfl,HV1.out wx hJ.out.below⟩,f9:=fun h => hJ.out.f9 h,f10:=fun h => hJ.out.f10 h,f12:=fun h => hJ.out.f12 h }
         | 9,_ =>
          obtain rfl:=Option.some.inj ho
          intro a9 dn vals wx hJ0 hdi hde hdj hev hsl hun
          have hJ:=Lib.hid hJ0
          rw [if_pos (wanted_none rfl)]
          have f105:(a9.tmps[105]?).getD undef=v2:=(hsl 6 105 (hde 0 _ rfl rfl) rfl).trans (hJ.out.f6 (hde 0 _ rfl rfl))
          obtain ⟨b8,e8,q8,k8⟩:=hJ.out.f8 (hde 1 _ rfl rfl) hdi
          have f107:(a9.tmps[107]?).getD undef=.slice (some ⟨b8,0,none⟩) 1 1:=(hsl 8 107 (hde 1 _ rfl rfl) rfl).trans e8
          have d4:Hid (dn 4=true):=hde 2 _ rfl rfl
          have n11:Hid (dn 11=false):=hdj 11 2 _ _ rfl rfl rfl rfl
          have n13:Hid (dn 13=false):=hdj 13 1 _ _ rfl rfl rfl rfl
          have hS:=hJ.out.s1 d4.out hdi
          obtain ⟨g9,cap9,w9,hrun,hown,hgr,hat,hlt9⟩:=run_append_lies (P:=Tryz.prog) (w:=wx) 36 36 w1.heap.size 3 i0 (.int .i64 0) 1 8 Tryz.underlying36 hi0 hz0 hz1 hz2 rfl (by decide) v2 hi.length _ hS.own2 ⟨b8,0,none⟩ 1 1 [.int .i64 G] rfl (fun j u hj => by
           match j,hj with
           | 0,hj => simp at hj; subst hj; exact q8) (fun u hu => by simp at hu; subst hu; rfl) (by decide) (by unfold maxLen; omega) (by omega) (HNX.out wx hJ.out.below) _ rfl
          have hS2:=hS.app2 (by decide) hown hgr hat
          have HB2:Hid (Below w1.heap.size Wd w9):=hJ.out.below.grown hgr (HNX.out wx hJ.out.below) (fun k e => (hS.own2.lt k e).1)
          have HRUN:=Lib.hid hrun
          have HS2:=Lib.hid hS2
          clear hde hdj hev hsl hun hJ0 hdi
          clear hrun hown hgr hat hlt9 hS hS2 q8 e8 k8
          refine does_append2 (s:=.tmp 105) (x:=.tmp 107) (T:=36) rfl (by rw [eval_tmp]; exact f105) (by rw [eval_tmp]; exact f107) HRUN.out ?_
          exact { below:=HB2.out,res:=fun _ _ => HS2.out.res,s0:=fun h => Bool.noConfusion ((show dn 4=false from h).symm.trans d4.out),s1:=fun _ h => Bool.noConfusion h,s2:=fun _ _ => HS2.out,s3:=fun h _ => Bool.noConfusion ((show dn 11=true from h).symm.trans n11.out),s4:=fun h => Bool.noConfusion ((show dn 13=true from h).symm.trans n13.out),f0:=fun h => hJ.out.f0 h,f1:=fun h => hJ.out.f1 h,f2:=fun h => hJ.out.f2 h,f3:=fun _ h => Bool.noConfusion ((show dn 4=false from h).symm.trans d4.out),f4:=fun h => hJ.out.f4 h,f5:=fun h => hJ.out.f5 h,f6:=fun h => hJ.out.f6 h,f7:=fun h => hJ.out.f7 h,f8:=fun _ h => Bool.noConfusion h,f9:=fun _ => ⟨_,_,rfl⟩,f10:=fun h => hJ.out.f10 h,f12:=fun h => hJ.out.f12 h }
         | 10,_ =>
          obtain rfl:=Option.some.inj ho
          intro a9 dn vals wx hJ0 hdi hde hdj hev hsl hun
          have hJ:=Lib.hid hJ0
          rw [if_pos (wanted_none rfl)]
          have f10:(a9.tmps[10]?).getD undef=.pointer (some ⟨w1.heap.size,0,none⟩):=hev 10 (by kernel_rfl)
          clear hde hdj hev hsl hun hJ0 hdi
          go_simp
          exact { below:=hJ.out.below,res:=fun h h2 => hJ.out.res h h2,s0:=fun h => hJ.out.s0 h,s1:=fun h h2 => hJ.out.s1 h h2,s2:=fun h h2 => hJ.out.s2 h h2,s3:=fun h h2 => hJ.out.s3 h h2,s4:=fun h => hJ.out.s4 h,f0:=fun h => hJ.out.f0 h,f1:=fun h => hJ.out.f1 h,f2:=fun h => hJ.out.f2 h,f3:=fun h h2 => hJ.out.f3 h h2,f4:=fun h => hJ.out.f4 h,f5:=fun h => hJ.out.f5 h,f6:=fun h => hJ.out.f6 h,f7:=fun h => hJ.out.f7 h,f8:=fun h h2 => hJ.out.f8 h h2,f9:=fun h => hJ.out.f9 h,f10:=fun _ => rfl,f12:=fun h => hJ.out.f12 h }
         | 11,_ =>
          obtain rfl:=Option.some.inj ho
          intro a9 dn vals wx hJ0 hdi hde hdj hev hsl hun
          have hJ:=Lib.hid hJ0
          rw [if_pos (wanted_none rfl)]
          have f109:(a9.tmps[109]?).getD undef=.pointer (some ⟨w1.heap.size,0,none⟩):=(hsl 10 109 (hde 0 _ rfl rfl) rfl).trans (hJ.out.f10 (hde 0 _ rfl rfl))
          obtain ⟨b4,cp4,e4⟩:=hJ.out.f4 (hde 1 _ rfl rfl)
          have f103:(a9.tmps[103]?).getD undef=.slice (some ⟨b4,0,none⟩) (lo.length+1) cp4:=(hsl 4 103 (hde 1 _ rfl rfl) rfl).trans e4
          have d4:Hid (dn 4=true):=hde 1 _ rfl rfl
          have d9:Hid (dn 9=true):=hde 2 _ rfl rfl
          have n13:Hid (dn 13=false):=hdj 13 2 _ _ rfl rfl rfl rfl
          have hS:=hJ.out.s2 d9.out hdi
          obtain ⟨k0,k1,k2,k3⟩:=hS.res
          have hS2:=hS.st1 (by decide)
          rw [e4] at hS2
          have HS2:=Lib.hid hS2
          have E4:=Lib.hid e4
          have HB2:Hid (Below w1.heap.size Wd (wx.setCell ⟨w1.heap.size,0,none⟩ (.slice (some ⟨b4,0,none⟩) (lo.length+1) cp4))):=hJ.out.below.setCell (p:=⟨w1.heap.size,0,none⟩) HGN.out _
          clear hde hdj hev hsl hun hJ0 hdi
          clear hS hS2 e4
          go_simp
          exact { below:=HB2.out,res:=fun h _ => Bool.noConfusion h,s0:=fun h => Bool.noConfusion ((show dn 4=false from h).symm.trans d4.out),s1:=fun _ h => Bool.noConfusion ((show dn 9=false from h).symm.trans d9.out),s2:=fun _ h => Bool.noConfusion h,s3:=fun _ _ => by show BoxA _ _ _ (vals 4) _ (vals 4) (vals 9) _ _; rw [E4.out]; exact HS2.out,s4:=fun h => Bool.noConfusion ((show dn 13=true from h).symm.trans n13.out),f0:=fun h => hJ.out.f0 h,f1:=fun h => hJ.out.f1 h,f2:=fun h => hJ.out.f2 h,f3:=fun _ h => Bool.noConfusion ((show dn 4=false from h).symm.trans d4.out),f4:=fun h => hJ.out.f4 h,f5:=fun h => hJ.out.f5 h,f6:=fun h => hJ.out.f6 h,f7:=fun h => hJ.out.f7 h,f8:=fun _ h => Bool.noConfusion ((show dn 9=false from h).symm.trans d9.out),f9:=fun h => hJ.out.f9 h,f10:=fun h => hJ.out.f10 h,f12:=fun h => hJ.out.f12 h }
         | 12,_ =>
          obtain rfl:=Option.some.inj ho
          intro a9 dn vals wx hJ0 hdi hde hdj hev hsl hun
          have hJ:=Lib.hid hJ0
          rw [if_pos (wanted_none rfl)]
          have f10:(a9.tmps[10]?).getD undef=.pointer (some ⟨w1.heap.size,0,none⟩):=hev 10 (by kernel_rfl)
          clear hde hdj hev hsl hun hJ0 hdi
          go_simp
          exact { below:=hJ.out.below,res:=fun h h2 => hJ.out.res h h2,s0:=fun h => hJ.out.s0 h,s1:=fun h h2 => hJ.out.s1 h h2,s2:=fun h h2 => hJ.out.s2 h h2,s3:=fun h h2 => hJ.out.s3 h h2,s4:=fun h => hJ.out.s4 h,f0:=fun h => hJ.out.f0 h,f1:=fun h => hJ.out.f1 h,f2:=fun h => hJ.out.f2 h,f3:=fun h h2 => hJ.out.f3 h h2,f4:=fun h => hJ.out.f4 h,f5:=fun h => hJ.out.f5 h,f6:=fun h => hJ.out.f6 h,f7:=fun h => hJ.out.f7 h,f8:=fun h h2 => hJ.out.f8 h h2,f9:=fun h => hJ.out.f9 h,f10:=fun h => hJ.out.f10 h,f12:=fun _ => rfl }
         | 13,_ =>
          obtain rfl:=Option.some.inj ho
          intro a9 dn vals wx hJ0 hdi hde hdj hev hsl hun
          have hJ:=Lib.hid hJ0
          rw [if_pos (wanted_none rfl)]
          have f110:(a9.tmps[110]?).getD undef=.pointer (some ⟨w1.heap.size,1,none⟩):=(hsl 12 110 (hde 0 _ rfl rfl) rfl).trans (hJ.out.f12 (hde 0 _ rfl rfl))
          obtain ⟨b9,cp9,e9⟩:=hJ.out.f9 (hde 1 _ rfl rfl)
          have f108:(a9.tmps[108]?).getD undef=.slice (some ⟨b9,0,none⟩) (hi.length+1) cp9:=(hsl 9 108 (hde 1 _ rfl rfl) rfl).trans e9
          have d4:Hid (dn 4=true):=hde 7 _ rfl rfl
          have d9:Hid (dn 9=true):=hde 1 _ rfl rfl
          have d11:Hid (dn 11=true):=hde 2 _ rfl rfl
          have hS:=hJ.out.s3 d11.out hdi
          obtain ⟨k0,k1,k2,k3⟩:=hS.res
          have hS2:=hS.st2 (by decide)
          rw [e9] at hS2
          have HS2:=Lib.hid hS2
          have E9:=Lib.hid e9
          have HB2:Hid (Below w1.heap.size Wd (wx.setCell ⟨w1.heap.size,1,none⟩ (.slice (some ⟨b9,0,none⟩) (hi.length+1) cp9))):=hJ.out.below.setCell (p:=⟨w1.heap.size,1,none⟩) HGN.out _
          obtain ⟨b4,cp4,e4⟩:=hJ.out.f4 d4.out
          rw [e4] at k0
          have E4:=Lib.hid e4
          clear hde hdj hev hsl hun hJ0 hdi
          clear hS hS2 e9 e4
          go_simp
          exact { below:=HB2.out,res:=fun _ h => Bool.noConfusion h,s0:=fun h => Bool.noConfusion ((show dn 4=false from h).symm.trans d4.out),s1:=fun _ h => Bool.noConfusion ((show dn 9=false from h).symm.trans d9.out),s2:=fun _ h => Bool.noConfusion ((show dn 11=false from h).symm.trans d11.out),s3:=fun _ h => Bool.noConfusion h,s4:=fun _ => by show BoxA _ _ _ (vals 4) (vals 9) (vals 4) (vals 9) _ _; rw [E9.out]; exact HS2.out,f0:=fun h => hJ.out.f0 h,f1:=fun h => hJ.out.f1 h,f2:=fun h => hJ.out.f2 h,f3:=fun _ h => Bool.noConfusion ((show dn 4=false from h).symm.trans d4.out),f4:=fun h => hJ.out.f4 h,f5:=fun h => hJ.out.f5 h,f6:=fun h => hJ.out.f6 h,f7:=fun h => hJ.out.f7 h,f8:=fun _ h => Bool.noConfusion ((show dn 9=false from h).symm.trans d9.out),f9:=fun h => hJ.out.f9 h,f10:=fun h => hJ.out.f10 h,f12:=fun h => hJ.out.f12 h }
        ·intro dn vals wx hall hJ
         have hS:=hJ.s4 (hall 13 (by decide))
         have g0:=hJ.f0 (hall 0 (by decide))
         have g1:=hJ.f1 (hall 1 (by decide))
         have g2:=hJ.f2 (hall 2 (by decide))
         have g5:=hJ.f5 (hall 5 (by decide))
         have g6:=hJ.f6 (hall 6 (by decide))
         have g7:=hJ.f7 (hall 7 (by decide))
         have g10:=hJ.f10 (hall 10 (by decide))
         have g12:=hJ.f12 (hall 12 (by decide))
         obtain ⟨b4,cp4,g4⟩:=hJ.f4 (hall 4 (by decide))
         obtain ⟨b9,cp9,g9⟩:=hJ.f9 (hall 9 (by decide))
         rw [g4,g9] at hS
         have HS9:=Lib.hid hS.to
         have HB9:=Lib.hid hJ.below
         simp only [putDs,Act.put,Nat.zero_add,Nat.reduceAdd,List.setIfInBounds_toArray,List.set_cons_succ,List.set_cons_zero,g0,g1,g2,g4,g5,g6,g7,g9,g10,g12]
         clear g0 g1 g2 g4 g5 g6 g7 g9 g10 g12 hS hJ hall
         have HB5:=Lib.hid ((HBR.out.trans (HBC.out.mono HBR.out.size)).trans HB9.out)
         go_wp2
         have hfr:=homeF_range (n:=k) (off:=O) (s:=y) (o:=z) HK0.out.1
         have htr:=homeT_range (q:=Q) (n:=k) (off:=O) (s:=y) (o:=z)
         rw [← HF.out] at hfr
         rw [← HG.out] at htr
         have hk1:=HK0.out.2
         refine ⟨⟨i+1,_,_,_,_,by omega,by go_num,?_,HW.out,HS9.out,HB5.out⟩,by show d.length - _<d.length - _; simp [intOf]; omega⟩
         exact ⟨by rw [List.length_append,HLN.out.1]; rfl,by rw [List.length_append,HLN.out.2.1]; rfl,HLN.out.2.2.snoc (by rw [HLN.out.1,HLN.out.2.1]) (by omega) (by omega) (by omega) (by omega)⟩
  ·obtain rfl:i=d.length:=by omega
   have hn:=HN.out
   rw [List.drop_length,homesL] at hn
   ·have HWS:Hid (H9=(lo,hi)):=hn.symm
    obtain ⟨⟨f0,f1,f2,f3⟩,ow1,ow2,hap,htg⟩:=HBO.out
    have h1:=RowZ.append_owns ow1 rfl
    have h2:=RowZ.append_owns ow2 rfl
    have H1:=Lib.hid h1
    have H2:=Lib.hid h2
    obtain ⟨q1,k1,e1,-⟩:=h1.ints.shape
    obtain ⟨q2,k2,e2,-⟩:=h2.ints.shape
    have HPW:=Lib.hid (HomP.wide HLN.out.2.2 (HLN.out.1.trans HLN.out.2.1.symm))
    have hl1:lo.length=d.length:=HLN.out.1
    have HL1:=Lib.hid hl1
    have hgw:w1.heap.size<wr.heap.size:=htg.lt
    have hgn:w1.heap.size ≠ wr.heap.size:=Nat.ne_of_lt hgw
    clear hn hbo hb ow1 ow2 hap htg h1 h2 b0 b1 hl1
    subst e1 e2
    go_wp2_with fail
    refine (points_any (.slice q1 lo.length k1) (.slice q2 hi.length k2) _ ⟨_,_,_,rfl⟩ ⟨_,_,_,rfl⟩).mono ?_
    rintro e w4 ⟨rfl,rfl⟩
    go_wp2_with fail
    obtain ⟨W5,hW5⟩:∃ W5,W5=(wr.alloc (.cells #[.slice none 0 0] 52)).alloc (.cells #[.slice q1 lo.length k1,.slice q2 hi.length k2] 44):=⟨_,rfl⟩
    have hsz5:W5.heap.size=wr.heap.size+2:=by rw [hW5]; simp
    have hb5:Below wr.heap.size wr W5:=by rw [hW5]; exact (below_alloc _ _).trans ((below_alloc _ _).mono (by simp))
    have hbx5:Boxed W5 wr.heap.size 52 (.slice none 0 0):=by
     have h0:=Boxed.new wr 52 (.slice none 0 0)
     rw [hW5]
     exact ((below_alloc _ _).block _ (by simp)).trans h0
    have hc50:W5.cell? ⟨wr.heap.size+1,0,none⟩=some (.slice q1 lo.length k1):=by rw [hW5,World.cell?_alloc_at _ _ _ _ (by simp)]; rfl
    have hc51:W5.cell? ⟨wr.heap.size+1,1,none⟩=some (.slice q2 hi.length k2):=by rw [hW5,World.cell?_alloc_at _ _ _ _ (by simp)]; rfl
    have htg5:TagB W5 (wr.heap.size+1) 44:=by
     have h0:=World.alloc_heap_new (wr.alloc (.cells #[.slice none 0 0] 52)) (.cells #[.slice q1 lo.length k1,.slice q2 hi.length k2] 44)
     rw [← hW5,World.size_alloc] at h0
     exact ⟨_,(0,0),h0⟩
    have hN6:ptsN lo hi≤81:=by
     have h1:=HPW.out.2.1
     have h2:3 ^ lo.length≤3 ^ 4:=Nat.pow_le_pow_right (by decide) (by have:=HL1.out; omega)
     exact Nat.le_trans h1 h2
    have hd1:0<lo.length:=by
     have h1:=(dims_good GL.out.dims).1
     have h2:=HL1.out
     omega
    have hsq:=points1X_any (some wr.heap.size) lo hi (.slice q1 lo.length k1) (.slice q2 hi.length k2) W5 (wr.heap.size+1) (by omega) hc50 hc51 (H1.out.ints.later IntR.lasts hb5) (H2.out.ints.later IntR.lasts hb5) HPW.out.1 hd1 (by have:=HL1.out; omega) HPW.out.2.2.1 HPW.out.2.2.2 (fun e => by injection e with e; omega) (ptsX_row H1.out (Nat.le_refl _)) (ptsX_row H2.out (Nat.le_refl _))
    obtain ⟨j0,hj0,hy0,hy1,hy2⟩:=info_parts infoIs
    refine (wpIn_wide (n:=5)).1 ?_
    rw [show ((wr.alloc (.cells #[.slice none 0 0] 52)).alloc (.cells #[.slice q1 lo.length k1,.slice q2 hi.length k2] 44))=W5 from hW5.symm]
    apply wpIn_rangeFunc_pts1 (c:=some wr.heap.size) 19 rfl (by decide) (gf:=99) (lb:=#[.pointer (some ⟨wr.heap.size+1,0,none⟩)]) rfl trivial (enters_of Tryz.func99 (by kernel_rfl) rfl) hsq (Below.refl _ _)
     (fun g k v A B row h hg hr => h.kept hg hr)
     (fun g k W => ∃ v,Boxed W wr.heap.size 52 v∧PtsI wr.heap.size g W v ((ptsL lo hi).take k)∧Below wr.heap.size wr W∧TagB W (wr.heap.size+1) 44)
    case hI =>
     rintro g k A B row ⟨v,h1,h2,h3,h4⟩ hge ht hg hr
     rw [hsz5] at hge
     refine ⟨v,h1.kept hg fun e => ?_,h2.kept ht (by decide) hg (fun r e => (hr r e).imp id fun h => h.2),h3.grown hg h3.size (fun r e => ?_),h4.kept (hg.block _ h4.lt (fun e => ?_))⟩
     ·rcases hr _ e.symm with e2 | ⟨h5,-⟩
      ·omega
      ·rw [hsz5] at h5; omega
     ·rcases hr r e with rfl | ⟨h5,-⟩
      ·omega
      ·rw [hsz5] at h5; omega
     ·rcases hr _ e.symm with e2 | ⟨h5,-⟩
      ·omega
      ·rw [hsz5] at h5; omega
    case h0 =>
     intro g W0 hb hge ht
     exact ⟨_,(hb.block _ (by omega)).trans hbx5,⟨[],World.ownsRow_nil _ _ _ _,fun i x u h => by simp at h⟩,hb5.trans (hb.mono (by omega)),htg5.kept (hb.block _ (by omega))⟩
    case hassign =>
     intro l v W K hK
     simp only [List.setIfInBounds_toArray,List.set_cons_succ,List.set_cons_zero] at hK ⊢
     gi_wp2
     exact hK
    case hbody =>
     rintro l g k v W ⟨s,h1,⟨vals,h2,h2'⟩,h3,h4⟩ hk hge ht ⟨x,hx,hix,hvg⟩
     have hlk:((ptsL lo hi).take k).length=k:=by rw [List.length_take,ptsL_length]; omega
     have H2O:=Lib.hid h2
     rw [hlk] at h2
     obtain ⟨av,cv,hvs,-⟩:=hix.ints.shape
     have hc1:=h1.cell
     have hf1:=h1.frozen
     have HIX:=Lib.hid hix
     have HVG:=Lib.hid hvg
     have H1:=Lib.hid h1
     have H2:=Lib.hid h2
     have H2':=Lib.hid h2'
     have H3:=Lib.hid h3
     have HT':=Lib.hid ht
     have HX:=Lib.hid hx
     have HLK:=Lib.hid hlk
     subst hvs
     have HT5:=Lib.hid h4
     have HRN:Hid (∀ k,k<W5.heap.size→k ≠ wr.heap.size→s.ownBlock ≠ some k):=fun k hk hne e => by
      have h5:=(h2.lt k e).1
      rw [hsz5] at hk
      have h6:k=wr.heap.size+1:=by omega
      subst h6
      exact (ownsRow_tag h2 _ e).ne h4 (by decide) rfl
     have HW5:Hid (W5.heap.size≤W.heap.size):=by show _≤_; have:=h4.lt; rw [hsz5]; omega
     have hbs:wr.heap.size≤(W.alloc (.cells #[.slice av x.length cv] 36)).heap.size:=by have:=h3.size; simp; omega
     clear hix hvg h1 h2 h2' h3 h4 ht hx hlk hc50 hc51 hbx5 hb5 htg5
     have hk1:k+1≤1000000:=by omega
     simp only [List.setIfInBounds_toArray,List.set_cons_succ,List.set_cons_zero]
     gi_wp2_with (gi_at_builtin; refine wpListIn_append_own _ rfl _ _ 52 rfl wr.heap.size 36 j0 (.slice none 0 0) 1 24 Tryz.underlying52 hj0 hy0 hy1 hy2 rfl (by decide) _ _ _ rfl (H2.out.alloc _) ⟨W.heap.size,0,none⟩ 1 1 [.slice av x.length cv] rfl rfl (cell_one_new _ _ _) (by simp [Value.oneCell']) (by unfold maxLen; omega) (by omega) hbs ?_; intro v' w9 hown' hgrow _; obtain ⟨g',cap',rfl⟩:=ownsRow_succ hown'; have SN:=Lib.hid (PtsI.snoc H1.out H3.out.size (Nat.le_refl _) (by decide) (by decide) (by decide) H2O.out H2'.out HIX.out HVG.out HT'.out (by rw [HLK.out]; exact hown') hgrow); have hc2:=SN.out.1.cell; have hf2:=SN.out.1.frozen; have BX:=Lib.hid (belowX_app (v':=.slice (some ⟨g',0,none⟩) (k+1) cap') hgrow HRN.out HW5.out); clear hown' hgrow)
     obtain ⟨-,s1,s2,s3,s4,s5⟩:=SN.out
     exact ⟨s3.from _,s5,BX.out,_,s1,by rw [take_snoc' HX.out]; exact s2,H3.out.trans s4,HT5.out.kept (BX.out.block _ (by rw [hsz5]; omega) (fun e => by injection e with e; omega))⟩
    case hdone =>
     rintro D g W hD ⟨v,h1,h2,h3,-⟩ hK
     rw [hsz5] at hD
     have hc1:=h1.cell
     have hrw:=h2.rows
     rw [List.take_of_length_le (by rw [ptsL_length]; exact Nat.le_refl _)] at hrw
     obtain ⟨av,cv,hvs,-⟩:=hrw.rows.shape
     have HRW:=Lib.hid hrw
     have H3:=Lib.hid h3
     subst hvs
     clear hrw h1 h2 h3 hc50 hc51 hbx5 hb5 htg5
     go_wp2
     refine ⟨by simp,.inl ⟨_,_,rfl,run_takeDeferred hK,?_⟩⟩
     refine ⟨_,(by simp [results,Tryz.results24,go_sem]; try rfl),?_⟩
     rw [HR.out,HWS.out]
     refine ⟨_,rfl,?_,?_⟩
     ·refine ((rowsO_base HRW.out HBW.out.size)).kept (grownBy_putObj' W D (.deferred none)) (fun r e e2 => ?_) (fun r e ht => ?_)
      ·cases e
       obtain ⟨vals,ho,-⟩:=HRW.out.ex
       have:=(ownsRow_tag ho D e2).cellsB hK
       cases this
      ·cases e
       have:=ht.cellsB hK
       cases this
     ·exact (HBW.out.trans (H3.out.mono HBW.out.size)).trans (belowK_b (w:=w) (Nat.le_refl _) W D _ _ (by have:=HBW.out.size; omega) hK rfl rfl)
   ·intro a1 a2 a3 a4 a5 a6 a7 a8 h9
    cases h9
end Go.Proofs.YtdbnebhehiiakaaGreatDoor
