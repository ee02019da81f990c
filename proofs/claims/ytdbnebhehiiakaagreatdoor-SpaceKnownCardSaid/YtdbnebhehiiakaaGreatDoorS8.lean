/- Lemmas and contracts, each under its own condition: Contracts: slices.Clone of integers; the iterator of space.points, round by round. The iterator of space.points: its contract. Contracts: space.points, slices.Collect of its points. -/
import Derived.Sort.LoopGhostIn
import Derived.Outline
import Derived.Test.YtdbnebhehiiakaaGreatDoorS6
import Derived.Test.YtdbnebhehiiakaaGreatDoorS7
import Derived.Test.YtdbnebhehiiakaaGreatDoorShlf
namespace Go.Proofs.YtdbnebhehiiakaaGreatDoor
open Go.RowKit Go.Shelf
attribute [local go_sem] Oper.semAt_some
theorem RowZ.of_owns {w:World} {base n cap g:Nat} {l:List Int} (h:w.ownsRow base 3 1 (.slice (some ⟨g,0,none⟩) n cap) n (l.map (Value.int .i64))):RowZ w g l∧base≤g∧n≤cap∧cap≤9223372036854775807:=by
 have hc:∀ j u,(l.map (Value.int .i64))[j]? = some u→w.cell? ((⟨g,0,none⟩:Addr).add j)=some u:=fun j u hu => h.cells rfl j u hu
 rcases h.2 with ⟨e,-⟩ | ⟨g',cap',cur,e,h1,h2,h3,h4,h5,h6⟩
 ·cases e
 ·injection e with e1 e2 e3
  injection e1 with e1
  injection e1 with e1
  subst e1 e3
  unfold maxLen at h4
  refine ⟨⟨fun i x hx => ?_,fun i => by simp [World.frozen?,h2],⟨cur,(0,0),h2⟩⟩,h1,h3,h4⟩
  have:=hc i (.int .i64 x) (by rw [List.getElem?_map,hx]; rfl)
  rwa [show (⟨g,0,none⟩:Addr).add i=⟨g,i,none⟩ from by unfold Addr.add; split <;> simp_all] at this
def RetCl (l:List Int) (w:World) (e:Ending) (w':World):Prop:=∃ g cap,e=.returned (.slice (some ⟨g,0,none⟩) l.length cap)∧w.heap.size≤g∧l.length≤cap∧cap≤9223372036854775807∧RowZ w' g l∧Below w.heap.size w w'
theorem clone_any (l:List Int) (v:Value) (w:World) (h:Ints w v l) (h0:0<l.length) (h1:l.length≤1000000):Calls Tryz.prog 100 #[v] w (RetCl l w):=by
 obtain ⟨a,cap,rfl,c1,c2,c3⟩:=h
 obtain ⟨g,o,rfl,hx⟩:=c3 h0
 refine (Tryz.slices_Clone_int g o l.length cap l w (Nat.le_refl _) (by omega) (fun j hj => ?_)).mono ?_
 ·have:=hx j l[j] (List.getElem?_eq_getElem hj)
  unfold IntR at this
  rw [Nat.mul_one] at this
  rw [this,List.getD_eq_getElem?_getD,List.getElem?_eq_getElem hj]
  rfl
 ·rintro e w' ⟨v',rfl,ho,hn,hb⟩
  rw [List.take_length] at ho
  obtain ⟨g',cap',rfl,hg,-⟩:=ho.form h0
  obtain ⟨r1,r2,r3,r4⟩:=RowZ.of_owns ho
  exact ⟨g',cap',rfl,r2,r3,r4,r1,hb⟩
theorem nextP_none {lo hi x:List Int} (h:x=hi):nextP lo hi x=none:=by
 subst h
 induction lo generalizing x with
 | nil => rfl
 | cons l ls ih =>
  cases x with
  | nil => rfl
  | cons a xs => rw [nextP,ih]; simp
theorem nextP_mid {L1 L2 H1 H2 X1:List Int} {l h a:Int} (h1:H1.length=L1.length) (h2:X1.length=L1.length) (hne:a ≠ h):nextP (L1 ++ l :: L2) (H1 ++ h :: H2) (X1 ++ a :: H2)=some (X1 ++ (a+1) :: L2):=by
 induction L1 generalizing H1 X1 with
 | nil =>
  obtain rfl:H1=[]:=List.length_eq_zero_iff.1 h1
  obtain rfl:X1=[]:=List.length_eq_zero_iff.1 h2
  simp only [List.nil_append]
  rw [nextP,nextP_none rfl]
  simp [hne]
 | cons b L1 ih =>
  cases H1 with
  | nil => simp at h1
  | cons c H1 =>
   cases X1 with
   | nil => simp at h2
   | cons d X1 =>
    simp only [List.cons_append]
    rw [nextP,ih (by simpa using h1) (by simpa using h2)]
def backL (lo x:List Int) (p:Nat):List Int:=x.take p ++ lo.drop p
theorem split_at {α:Type} {l:List α} {p:Nat} {x:α} (h:l[p]? = some x):l=l.take p ++ x :: l.drop (p+1):=by
 rw [← drop_cons h,List.take_append_drop]
theorem next_at {lo hi x:List Int} {p:Nat} {l h a:Int} (hl:lo[p]? = some l) (hh:hi[p]? = some h) (ha:x[p]? = some a) (hs:∀ j,p<j→x[j]? = hi[j]?) (hne:a ≠ h) (hlen:x.length=hi.length) :
  nextP lo hi x=some (x.take p ++ (a+1) :: lo.drop (p+1)):=by
 have e:x.drop (p+1)=hi.drop (p+1):=by
  apply List.ext_getElem?
  intro j
  rw [List.getElem?_drop,List.getElem?_drop]
  exact hs _ (by omega)
 have h1:=(List.getElem?_eq_some_iff.1 hl).1
 have h2:=(List.getElem?_eq_some_iff.1 hh).1
 have h3:=(List.getElem?_eq_some_iff.1 ha).1
 conv => lhs; rw [split_at hl,split_at hh,split_at ha,e]
 exact nextP_mid (by simp; omega) (by simp; omega) hne
theorem backL_set {lo x:List Int} {p:Nat} {l a:Int} (hl:lo[p]? = some l) (ha:x[p]? = some a):(backL lo x (p+1)).set p l=backL lo x p:=by
 have h3:=(List.getElem?_eq_some_iff.1 ha).1
 unfold backL
 rw [take_snoc' ha,List.append_assoc,List.set_append_right _ _ (by rw [List.length_take]; omega),show p - (x.take p).length=0 from by simp; omega,drop_cons hl]
 rfl
theorem backL_next {lo x:List Int} {p:Nat} {a:Int} (ha:x[p]? = some a):(backL lo x (p+1)).set p (a+1)=x.take p ++ (a+1) :: lo.drop (p+1):=by
 have h3:=(List.getElem?_eq_some_iff.1 ha).1
 unfold backL
 rw [take_snoc' ha,List.append_assoc,List.set_append_right _ _ (by rw [List.length_take]; omega),show p - (x.take p).length=0 from by simp; omega]
 rfl
theorem backL_get {lo x:List Int} {p:Nat} {a:Int} (ha:x[p]? = some a):(backL lo x (p+1))[p]? = some a:=by
 have h3:=(List.getElem?_eq_some_iff.1 ha).1
 unfold backL
 rw [List.getElem?_append_left (by rw [List.length_take]; omega),List.getElem?_take_of_lt (by omega)]
 exact ha
theorem backL_length {lo x:List Int} {p:Nat} (h:lo.length=x.length) (hp:p≤x.length):(backL lo x p).length=x.length:=by
 unfold backL
 simp; omega
theorem backL_all {lo x:List Int} (h:lo.length=x.length):backL lo x x.length=x:=by
 unfold backL
 rw [List.take_length,← h,List.drop_length,List.append_nil]
theorem wideB_length {lo hi:List Int} (h:wideB lo hi):lo.length=hi.length:=by
 induction lo generalizing hi with
 | nil => cases hi with
  | nil => rfl
  | cons _ _ => exact absurd h (by simp [wideB])
 | cons a l ih => cases hi with
  | nil => exact absurd h (by simp [wideB])
  | cons b k => simp only [List.length_cons]; rw [ih h.2]
theorem ptsL_in {lo hi:List Int} (h:wideB lo hi) {x:List Int} (hx:x ∈ ptsL lo hi):x.length=lo.length∧∀ (j:Nat) (a l k:Int),x[j]? = some a→lo[j]? = some l→hi[j]? = some k→l≤a∧a≤k:=by
 induction lo generalizing hi x with
 | nil =>
  cases hi with
  | nil => simp [ptsL] at hx; subst hx; exact ⟨rfl,fun j a l k h => by simp at h⟩
  | cons _ _ => exact absurd h (by simp [wideB])
 | cons l ls ih =>
  cases hi with
  | nil => exact absurd h (by simp [wideB])
  | cons k hs =>
   obtain ⟨h1,h2⟩:=h
   rw [ptsL,List.mem_flatMap] at hx
   obtain ⟨n,hn,hx⟩:=hx
   rw [List.mem_range] at hn
   obtain ⟨y,hy,rfl⟩:=List.mem_map.1 hx
   obtain ⟨e1,e2⟩:=ih h2 hy
   refine ⟨by simp [e1],fun j a b c ha hb hc => ?_⟩
   cases j with
   | zero =>
    simp only [List.getElem?_cons_zero,Option.some.injEq] at ha hb hc
    omega
   | succ j => exact e2 j a b c ha hb hc
attribute [local go_sem] Oper.semAt_some
def FrP (lo hi:List Int) (g k:Nat) (v:Value) (W:World):Prop:=∃ x,(ptsL lo hi)[k]? = some x∧IntsO W v x∧v.ownBlock ≠ some g
set_option maxRecDepth 100000 in
set_option maxHeartbeats 8000000 in
theorem points1_any (lo hi:List Int) (vlo vhi:Value) (w:World) (Bb:Nat) (hBb:Bb<w.heap.size) (hc0:w.cell? ⟨Bb,0,none⟩=some vlo) (hc1:w.cell? ⟨Bb,1,none⟩=some vhi) (hlo:Ints w vlo lo) (hhi:Ints w vhi hi) (hw:wideB lo hi)
  (h0:0<lo.length) (h4:lo.length≤1000) (hbl:∀ x ∈ lo,-9223372036854775808≤x) (hbh:∀ x ∈ hi,x≤9223372036854775807) :
  SeqB Fence.wide 4 Tryz.prog 99 #[.pointer (some ⟨Bb,0,none⟩)] (ptsN lo hi) (FrP lo hi) 3 w:=by
 intro l J W hW hJ hJ0 hY
 have HLO:=Lib.hid hlo
 have HHI:=Lib.hid hhi
 have HW:=Lib.hid hw
 have HJ:=Lib.hid hJ
 have HJ0:=Lib.hid hJ0
 have HY:=Lib.hid hY
 have HL:=Lib.hid (wideB_length hw)
 have HBL:=Lib.hid hbl
 have HBH:=Lib.hid hbh
 have HWB:=Lib.hid hW
 have HC0:=Lib.hid hc0
 obtain ⟨al,cl,rfl,kl,-⟩:=hlo.shape
 obtain ⟨ah,ch,rfl,kh,-⟩:=hhi.shape
 rw [← HL.out] at kh HHI hc1
 have d0:=cell_later hc0 hW
 have d1:=cell_later hc1 hW
 have hBW:Bb<W.heap.size:=Nat.lt_of_lt_of_le hBb hW.size
 have CL:=Lib.hid (fun w1 (hb:Below w.heap.size w w1) => clone_any lo (.slice al lo.length cl) w1 (HLO.out.later IntR.lasts hb) h0 (by omega))
 have HC1:=Lib.hid hc1
 clear hlo hhi hw hJ hJ0 hY hbl hbh hW hc0 hc1
 refine callsIn_of_wp Tryz.func99 rfl trivial ?_ rfl
 simp only [Tryz.ntmps99,List.size_toArray,List.length_cons,List.length_nil,Nat.reduceAdd,Nat.reduceSub,Array.replicate_succ,Array.replicate_zero,List.push_toArray,List.append_toArray,List.nil_append,List.cons_append]
 gi_wp2_with fail
 refine ⟨trivial,?_⟩
 gi_at_call 100
 refine (callsIn_wide.2 (CL.out _ HWB.out)).mono ?_
 rintro e w1 ⟨g,cap,rfl,hg,hcap,hcap2,hrz,hb⟩
 have HB1:=Lib.hid hb
 have HRZ:=Lib.hid hrz
 have HG:=Lib.hid hg
 have HJ1:=Lib.hid (HJ0.out g w1 hb hg hrz.tag)
 have HN0:=Lib.hid (ptsN_pos HW.out)
 have HP0:=Lib.hid (ptsL_zero HW.out)
 clear hb hrz hg d0 d1
 gi_wp2
 gi_loopg [4] (ptsN lo hi) (fun m _ wr => ∃ (k:Nat) (x:List Int),m+k=ptsN lo hi∧Hid ((ptsL lo hi)[k]? = some x)∧RowZ wr g x∧J g k wr∧Below w.heap.size w wr)
 case atStart => exact ⟨0,lo,rfl,HP0.out,HRZ.out,HJ1.out,HWB.out.trans (HB1.out.mono HWB.out.size)⟩
 case round =>
  obtain ⟨k,x,hmk,hx,hrx,hj,hbw⟩:=hrel
  have HX:=Lib.hid hx
  have HJK:=Lib.hid hj
  have HRX:=Lib.hid hrx
  have HBW:=Lib.hid hbw
  have hin:=ptsL_in HW.out (List.mem_of_getElem? hx.out)
  have HIN:=Lib.hid hin
  have hxl:x.length=lo.length:=hin.1
  have hkN:k<ptsN lo hi:=by have:=(List.getElem?_eq_some_iff.1 hx.out).1; rwa [ptsL_length] at this
  have CX:=Lib.hid (clone_any x (.slice (some ⟨g,0,none⟩) x.length cap) wr (hrx.ints rfl (by omega) hcap2).ints (by omega) (by omega))
  rw [hxl] at CX
  have HXL:=Lib.hid hxl
  have HGT:Hid (g<wr.heap.size):=hrx.tag.lt
  clear hx hrx hj hbw hin hxl
  gi_wp2_with fail
  refine ⟨trivial,?_⟩
  gi_at_call 100
  refine (callsIn_wide.2 CX.out).mono ?_
  rintro e w2 ⟨gv,capv,rfl,hgv,hcapv,hcapv2,hrv,hb2⟩
  rw [HXL.out] at hcapv
  have HRV:=Lib.hid hrv
  have hj2:=HJ.out g k wr w2 HJK.out (by have:=HG.out; exact this) HRX.out.tag (HRX.out.later hb2 HGT.out).tag (grown_of_below hb2 (some g))
  have HR2:=Lib.hid (HRX.out.later hb2 HGT.out)
  have HB2:=Lib.hid (HBW.out.trans (hb2.mono HBW.out.size))
  have hfr:FrP lo hi g k (.slice (some ⟨gv,0,none⟩) lo.length capv) w2:=⟨x,HX.out,hrv.ints HXL.out hcapv hcapv2,by
   intro e
   have e2:gv=g:=by simpa [Value.ownBlock] using e
   have h3:g<wr.heap.size:=HGT.out
   omega⟩
  obtain ⟨fn,tmps,assign,body,hy,hR⟩:=HY.out g k _ w2 hj2 hkN HG.out HR2.out.tag hfr
  have HRR:=Lib.hid hR
  rw [HXL.out]
  clear hrv hj2 hb2 hfr hR hgv
  gi_wp2
  refine HRR.out.mono ?_
  rintro e w3 ⟨rfl,hj3,hg3,hb3⟩
  have HR3:=Lib.hid (HR2.out.kept hg3)
  have HJ3:=Lib.hid hj3
  have HB3w:Hid (Below w.heap.size w w3):=HB2.out.trans hb3
  clear hj3 hg3 hb3 hy HRR
  gi_wp2
  have hge:w.heap.size≤g:=Nat.le_trans HWB.out.size HG.out
  have hgW:W.heap.size≤g:=HG.out
  have HMK:=Lib.hid hmk
  clear hmk
  refine wpIn_wide.2 ?_
  go_loopg [4] lo.length (fun p iv wy => p≤lo.length∧iv=.int .i64 ((p:Int) - 1)∧Hid (∀ j,p≤j→x[j]? = hi[j]?)∧RowZ wy g (backL lo x p)∧J g (k+1) wy∧Below w.heap.size w wy)
  case atStart => exact ⟨Nat.le_refl _,(by simp),(fun j hj => by rw [List.getElem?_eq_none (by rw [HXL.out]; exact hj),List.getElem?_eq_none (by rw [← HL.out]; exact hj)]),(by have:=HR3.out; rwa [← HXL.out,backL_all HXL.out.symm]),HJ3.out,HB3w.out⟩
  case round =>
   obtain ⟨hp,rfl,hsuf,hrp,hjp,hbp⟩:=hrel
   have HSF:=Lib.hid hsuf.out
   have HRP:=Lib.hid hrp
   have HJP:=Lib.hid hjp
   have HBP:=Lib.hid hbp
   clear hsuf hrp hjp hbp
   rcases Nat.eq_zero_or_pos gk with h0 | h0
   ·subst h0
    have hend:Hid (k+1=ptsN lo hi):=by
     have hxh:x=hi:=List.ext_getElem? fun j => HSF.out j (Nat.zero_le _)
     have hn:=ptsL_next HW.out k x HX.out
     rw [nextP_none hxh] at hn
     have:=List.getElem?_eq_none_iff.1 hn.symm
     rw [ptsL_length] at this
     show _=_
     omega
    have e1:((0:Nat):Int) - 1 = -1:=rfl
    rw [e1]
    clear e1 h0
    go_wp2
    go_quiet (fail)
    have HJE:=Lib.hid (HJ.out g (k+1) wr (wr.drewN nq) HJP.out hgW HRP.out.tag HRP.out.tag (grown_of_below (below_drewN' wr nq) _))
    go_wp2
    gi_wp2
    refine bodyPost_ret (results_none rfl _ _ _) rfl ?_
    exact ⟨⟨_,rfl⟩,g,hgW,by rw [← hend.out]; exact HJE.out⟩
   ·obtain ⟨q,rfl⟩:∃ q,gk=q+1:=⟨gk - 1,by omega⟩
    have e1:((q+1:Nat):Int) - 1=(q:Int):=by omega
    rw [e1]
    clear e1 h0
    have hq:q<lo.length:=by omega
    obtain ⟨a,ha⟩:∃ a,x[q]? = some a:=⟨_,List.getElem?_eq_getElem (by rw [HXL.out]; exact hq)⟩
    obtain ⟨gh,oh,b,eh,hb,hrh⟩:=Ls.at HHI.out q (by rw [← HL.out]; exact hq)
    obtain ⟨gl,ol,c,el,hc,hrl⟩:=Ls.at HLO.out q hq
    subst eh el
    have hr:=cell_later hrh HBP.out
    have hl:=cell_later hrl HBP.out
    rw [Nat.mul_one] at hr hl
    have d1:=cell_later HC1.out HBP.out
    have d0:=cell_later HC0.out HBP.out
    have hcx:=HRP.out.cell q a (backL_get ha)
    have hfz:=HRP.out.free q
    have hab:=HIN.out.2 q a c b ha hc hb
    have hqi:(0:Int)≤(q:Int):=by omega
    have hql:(q:Int)<(lo.length:Int):=by omega
    have HA:=Lib.hid ha
    have HBb:=Lib.hid hb
    have HCc:=Lib.hid hc
    have hbx:=HBH.out b (List.mem_of_getElem? hb)
    have hcx':=HBL.out c (List.mem_of_getElem? hc)
    clear ha hb hc hrh hrl
    by_cases hab2:a=b
    ·subst hab2
     have ht:(a == a)=true:=by simp
     have HSF2:Hid (∀ j,q≤j→x[j]? = hi[j]?):=fun j hj => by
      rcases Nat.eq_or_lt_of_le hj with e | hlt
      ·rw [← e,HA.out,HBb.out]
      ·exact HSF.out j hlt
     clear hab
     go_wp2
     go_quiet (fail)
     have HRD:Hid (RowZ (wr.drewN nq) g (backL lo x (q+1))):=HRP.out.kept rfl
     have hst:=HRD.out.set q c (by rw [backL_length (by rw [HXL.out]) (by rw [HXL.out]; omega),HXL.out]; exact hq) rfl
     rw [backL_set HCc.out HA.out] at hst
     have HST:=Lib.hid hst
     have HJE:=Lib.hid (HJ.out g (k+1) _ _ (HJ.out g (k+1) wr (wr.drewN nq) HJP.out hgW HRP.out.tag HRP.out.tag (grown_of_below (below_drewN' wr nq) _)) hgW HRD.out.tag hst.tag (grown_setG (wr.drewN nq) g q (.int .i64 c)))
     have HBE:=Lib.hid ((HBP.out.trans ((below_drewN' wr nq).mono HBP.out.size)).setCell (p:=⟨g,q,none⟩) hge (.int .i64 c))
     clear hst
     go_wp2
     go_roundg q
     case measure => omega
     case rel => exact ⟨by omega,rfl,HSF2.out,HST.out,HJE.out,HBE.out⟩
    ·have ht:(a == b)=false:=by rw [beq_eq_false_iff_ne]; exact hab2
     have HNX:=Lib.hid (next_at HCc.out HBb.out HA.out (fun j hj => HSF.out j hj) hab2 (by rw [HXL.out,HL.out]))
     have hpn:=ptsL_next HW.out k x HX.out
     rw [HNX.out] at hpn
     have HPN:=Lib.hid hpn.symm
     have ha1:a+1≤9223372036854775807:=by omega
     have ha2 : -9223372036854775808≤a:=by omega
     clear hab2 hpn hab
     go_wp2
     go_quiet (fail)
     go_wp2
     have HRD:Hid (RowZ (wr.drewN nq) g (backL lo x (q+1))):=HRP.out.kept rfl
     have hst:=HRD.out.set q (a+1) (by rw [backL_length (by rw [HXL.out]) (by rw [HXL.out]; omega),HXL.out]; exact hq) rfl
     rw [backL_next HA.out] at hst
     have HST:=Lib.hid hst
     have HJE:=Lib.hid (HJ.out g (k+1) _ _ (HJ.out g (k+1) wr (wr.drewN nq) HJP.out hgW HRP.out.tag HRP.out.tag (grown_of_below (below_drewN' wr nq) _)) hgW HRD.out.tag hst.tag (grown_setG (wr.drewN nq) g q (.int .i64 (a+1))))
     have HBE:=Lib.hid ((HBP.out.trans ((below_drewN' wr nq).mono HBP.out.size)).setCell (p:=⟨g,q,none⟩) hge (.int .i64 (a+1)))
     clear hst
     gi_wp2
     gi_roundg (ptsN lo hi - (k+1))
     case measure => have:=HMK.out; omega
     case rel => exact ⟨k+1,_,by omega,HPN.out,HST.out,HJE.out,HBE.out⟩
attribute [local go_sem] Oper.semAt_some
structure PtsI (n₀ g:Nat) (W:World) (v:Value) (l:List (List Int)):Prop where
 ex:∃ vals:List Value,W.ownsRow n₀ 36 1 v l.length vals∧∀ (i:Nat) (x:List Int) (u:Value),l[i]? = some x→vals[i]? = some u→IntsO W u x∧u.ownBlock ≠ some g
theorem PtsI.rows {n₀ g:Nat} {W:World} {v:Value} {l:List (List Int)} (h:PtsI n₀ g W v l):RowsO n₀ W v l:=by
 obtain ⟨vals,h1,h2⟩:=h
 exact ⟨vals,h1,fun i x u hi hu => (h2 i x u hi hu).1⟩
theorem PtsI.kept {n₀ g:Nat} {A B:World} {v:Value} {l:List (List Int)} {row:Option Nat} (h:PtsI n₀ g A v l) (ht:TagB A g 3) (hT : 36 ≠ 3) (hg:A.grownBy B row)
  (hr:∀ r,row=some r→r=g ∨ ∃ o:Obj,A.heap[r]? = some o∧o.isCells=false):PtsI n₀ g B v l:=by
 obtain ⟨vals,h1,h2⟩:=h
 have hno:∀ r,row=some r→∀ T,TagB A r T→T ≠ 3 → False:=fun r e T hT' hne => by
  rcases hr r e with rfl | ⟨o,ho,hc⟩
  ·exact hT'.ne ht hne rfl
  ·rw [hT'.cellsB ho] at hc; cases hc
 refine ⟨vals,h1.kept hg ?_,fun i x u hi hu => ⟨(h2 i x u hi hu).1.grown hg fun r e e2 => ?_,(h2 i x u hi hu).2⟩⟩
 ·cases hv:v.ownBlock with
  | none => exact .inl rfl
  | some b => exact .inr fun e => hno b e.symm _ (ownsRow_tag h1 b hv) hT
 ·rcases hr r e with rfl | ⟨o,ho,hc⟩
  ·exact (h2 i x u hi hu).2 e2
  ·rw [((h2 i x u hi hu).1.tag r e2).cellsB ho] at hc; cases hc
theorem PtsI.snoc {n₀ g Bx:Nat} {W w1:World} {v v' u:Value} {l:List (List Int)} {x:List Int} {vals:List Value} {T2:TypeId} {o:Obj} (hv:Boxed W Bx T2 v) (hn₀:n₀≤W.heap.size) (hB:n₀≤Bx) (hT : 36 ≠ 3) (hT2:T2 ≠ 36) (hT3:T2 ≠ 3)
  (ho:W.ownsRow n₀ 36 1 v l.length vals) (hvl:∀ (i:Nat) (x:List Int) (u:Value),l[i]? = some x→vals[i]? = some u→IntsO W u x∧u.ownBlock ≠ some g)
  (hu:IntsO W u x) (hug:u.ownBlock ≠ some g) (ht:TagB W g 3) (hn:w1.ownsRow n₀ 36 1 v' (l.length+1) (vals ++ [u])) (hg:(W.alloc o).grownBy w1 v.ownBlock) :
  Boxed w1 Bx T2 v∧Boxed (w1.setCell ⟨Bx,0,none⟩ v') Bx T2 v'∧PtsI n₀ g (w1.setCell ⟨Bx,0,none⟩ v') v' (l ++ [x])∧KeepsOthers W (w1.setCell ⟨Bx,0,none⟩ v')∧Below n₀ W (w1.setCell ⟨Bx,0,none⟩ v')∧(w1.setCell ⟨Bx,0,none⟩ v').heap[g]? = W.heap[g]?:=by
 obtain ⟨k1,k2,k3,k4,k5⟩:=hv.appended hT2 ho hn₀ hB hn hg
 have hl:vals.length=l.length:=by have:=ho.1; rwa [Nat.mul_one] at this
 have hbt:TagB W Bx T2:=⟨_,_,hv⟩
 have hst:∀ b,TagB W b 3 → (w1.setCell ⟨Bx,0,none⟩ v').heap[b]? = W.heap[b]?:=fun b hb => by
  have h1:b ≠ Bx:=fun e => hbt.ne hb hT3 e.symm
  refine (Below.heap_setCell w1 ⟨Bx,0,none⟩ v' b h1).trans ?_
  refine (hg.block b (by have:=hb.lt; simp; omega) fun e => ?_).trans (Below.heap_alloc W o b hb.lt)
  exact (ownsRow_tag ho b e.symm).ne hb hT rfl
 have hk:∀ u x,IntsO W u x→IntsO (w1.setCell ⟨Bx,0,none⟩ v') u x:=fun u x h => h.kept fun b hb => hst b (h.tag b hb)
 refine ⟨k1,k2,⟨vals ++ [u],by simpa using k3,fun i y z hi hz => ?_⟩,k4,k5,hst g ht⟩
 by_cases hlt:i<l.length
 ·rw [List.getElem?_append_left hlt] at hi
  rw [List.getElem?_append_left (by omega)] at hz
  exact ⟨hk _ _ (hvl i y z hi hz).1,(hvl i y z hi hz).2⟩
 ·rw [List.getElem?_append_right (by omega)] at hi hz
  rw [hl] at hz
  have h0:i - l.length=0:=by
   have:=(List.getElem?_eq_some_iff.1 hi).1
   simp at this; omega
  rw [h0] at hi hz
  simp only [List.getElem?_cons_zero,Option.some.injEq] at hi hz
  subst hi hz
  exact ⟨hk _ _ hu,hug⟩
theorem FrP.kept {lo hi:List Int} {g k:Nat} {v:Value} {A B:World} {row:Option Nat} (h:FrP lo hi g k v A) (hg:A.grownBy B row) (hr:∀ r,row=some r→∃ o:Obj,A.heap[r]? = some o∧o.isCells=false):FrP lo hi g k v B:=by
 obtain ⟨x,h1,h2,h3⟩:=h
 refine ⟨x,h1,h2.grown hg fun r e e2 => ?_,h3⟩
 obtain ⟨o,ho,hc⟩:=hr r e
 rw [(h2.tag r e2).cellsB ho] at hc
 cases hc
theorem infoIs:(Tryz.prog.info? 36).map (fun i => (i.zero,i.size,i.bytes))=some (some (.slice none 0 0),1,24):=by kernel_rfl
theorem points_any (v1 v2:Value) (w:World) (h1:∃ a n k,v1=.slice a n k) (h2:∃ a n k,v2=.slice a n k) :
  Calls Tryz.prog 61 #[.agg #[v1,v2]] w fun e w' => e=.returned (.func (.func 99) #[] #[.pointer (some ⟨w.heap.size,0,none⟩)])∧w'=w.alloc (.cells #[v1,v2] 44):=by
 obtain ⟨a1,n1,k1,rfl⟩:=h1
 obtain ⟨a2,n2,k2,rfl⟩:=h2
 go_enter Tryz.func61,Tryz.ntmps61
 go_wp2
 go_ret
 exact ⟨rfl,rfl⟩
set_option maxRecDepth 100000 in
set_option maxHeartbeats 8000000 in
theorem appendSeq_any (lo hi:List Int) (gf:Nat) (lb:Array Value) (w:World) (hsz:ptsN lo hi≤1000000) (hT : 36 ≠ 3) (hT2 : 52 ≠ 36) (hT3 : 52 ≠ 3) (eg:∀ args w,(callFunc gf args).run Tryz.prog w=.ok (.enter gf args) w)
  (hs:SeqB Fence.wide 4 Tryz.prog gf lb (ptsN lo hi) (FrP lo hi) 3 w) :
  Calls Tryz.prog 98 #[.slice none 0 0,.func (.func gf) #[] lb] w fun e w' => ∃ v,e=.returned v∧RowsO w.heap.size w' v (ptsL lo hi)∧Below w.heap.size w w':=by
 refine (callsIn_wide (n:=5)).1 ?_
 refine callsIn_of_wp_marks Tryz.func98 rfl trivial ?_ rfl
 simp only [Tryz.ntmps98,List.size_toArray,List.length_cons,List.length_nil,Nat.reduceAdd,Nat.reduceSub,Array.replicate_succ,Array.replicate_zero,List.push_toArray,List.append_toArray,List.nil_append,List.cons_append]
 gi_wp2
 have hbx:=Boxed.new w 52 (.slice none 0 0)
 have hb0:=below_alloc w (.cells #[.slice none 0 0] 52)
 have hsz0:(w.alloc (.cells #[.slice none 0 0] 52)).heap.size=w.heap.size+1:=by simp
 obtain ⟨i0,hi0,hz0,hz1,hz2⟩:=info_parts infoIs
 refine wpIn_rangeFunc_pts rfl (by decide) (gf:=gf) (lb:=lb) rfl trivial eg hs hb0 rfl
  (fun g k v A B row h hg hr => h.kept hg hr)
  (fun g k W => ∃ v,Boxed W w.heap.size 52 v∧PtsI w.heap.size g W v ((ptsL lo hi).take k)∧Below w.heap.size w W)
  ?hI ?h0 (fun v => { tmps:=#[.slice none 0 0,.func (.func gf) #[] lb,.pointer (some ⟨w.heap.size,0,none⟩),undef,.slice none 0 0,v,.func (.func gf) #[] lb,v,undef,undef,undef,undef,undef],defers:=[] }) ?assign ?body ?done
 case hI =>
  rintro g k A B row ⟨v,h1,h2,h3⟩ hge ht hg hr
  rw [hsz0] at hge
  refine ⟨v,h1.kept hg fun e => ?_,h2.kept ht hT hg (fun r e => (hr r e).imp id fun h => h.2),h3.grown hg h3.size (fun r e => ?_)⟩
  ·rcases hr _ e.symm with e2 | ⟨h4,-⟩
   ·omega
   ·rw [hsz0] at h4; omega
  ·rcases hr r e with rfl | ⟨h4,-⟩
   ·omega
   ·rw [hsz0] at h4; omega
 case h0 =>
  intro g W0 hb hge ht
  exact ⟨_,(hb.block _ (by simp)).trans hbx,⟨[],World.ownsRow_nil _ _ _ _,fun i x u h => by simp at h⟩,hb0.trans (hb.mono (by simp))⟩
 case assign =>
  intro l v W K hK
  gi_wp2
  exact hK
 case body =>
  rintro l g k v W ⟨s,h1,⟨vals,h2,h2'⟩,h3⟩ hk hge ht ⟨x,hx,hix,hvg⟩
  have hlk:((ptsL lo hi).take k).length=k:=by rw [List.length_take,ptsL_length]; omega
  have H2O:=Lib.hid h2
  rw [hlk] at h2
  obtain ⟨av,cv,hvs,-⟩:=hix.ints.shape
  have hc1:=h1.cell
  have hf1:=h1.frozen
  have HIX:=Lib.hid hix
  have HVG:=Lib.hid hvg
  have H1:=Lib.hid h1
  have H2:=Lib.hid h2
  have H2':=Lib.hid h2'
  have H3:=Lib.hid h3
  have HT':=Lib.hid ht
  have HX:=Lib.hid hx
  have HLK:=Lib.hid hlk
  subst hvs
  clear hix hvg h1 h2 h2' h3 ht hx hlk
  have hk1:k+1≤1000000:=by omega
  have hbs:w.heap.size≤(W.alloc (.cells #[.slice av x.length cv] 36)).heap.size:=by have:=H3.out.size; simp; omega
  gi_wp2_with (gi_at_builtin; refine wpListIn_append_own _ rfl _ _ 52 rfl w.heap.size 36 i0 (.slice none 0 0) 1 24 Tryz.underlying52 hi0 hz0 hz1 hz2 rfl (by decide) _ _ _ rfl (H2.out.alloc _) ⟨W.heap.size,0,none⟩ 1 1 [.slice av x.length cv] rfl rfl (cell_one_new _ _ _) (by simp [Value.oneCell']) (by unfold maxLen; omega) (by omega) hbs ?_; intro v' w1 hown' hgrow _; obtain ⟨g',cap',rfl⟩:=ownsRow_succ hown'; have SN:=Lib.hid (PtsI.snoc H1.out H3.out.size (Nat.le_refl _) hT hT2 hT3 H2O.out H2'.out HIX.out HVG.out HT'.out (by rw [HLK.out]; exact hown') hgrow); have hc2:=SN.out.1.cell; have hf2:=SN.out.1.frozen; clear hown' hgrow)
  obtain ⟨-,s1,s2,s3,s4,s5⟩:=SN.out
  exact ⟨s3.from _,s5,s4,_,s1,by rw [take_snoc' HX.out]; exact s2,H3.out.trans s4⟩
 case done =>
  rintro D g W hD ⟨v,h1,h2,h3⟩ hK
  rw [hsz0] at hD
  have hc1:=h1.cell
  have hrw:=h2.rows
  rw [List.take_of_length_le (by rw [ptsL_length]; exact Nat.le_refl _)] at hrw
  obtain ⟨av,cv,hvs,-⟩:=hrw.rows.shape
  have HRW:=Lib.hid hrw
  have H3:=Lib.hid h3
  subst hvs
  clear hrw h1 h2 h3
  gi_wp2
  refine ⟨by simp,.inl ⟨_,_,rfl,run_takeDeferred hK,?_⟩⟩
  refine ⟨_,results_tmp rfl _ _ _,_,rfl,?_,?_⟩
  ·refine HRW.out.kept (grownBy_putObj' W D (.deferred none)) (fun r e e2 => ?_) (fun r e ht => ?_)
   ·cases e
    obtain ⟨vals,ho,-⟩:=HRW.out.ex
    have:=(ownsRow_tag ho D e2).cellsB hK
    cases this
   ·cases e
    have:=ht.cellsB hK
    cases this
  ·exact H3.out.trans (belowK_b (w:=w) (Nat.le_refl _) W D _ _ (by omega) hK rfl rfl)
set_option maxHeartbeats 1000000 in
theorem collect_any (lo hi:List Int) (gf:Nat) (lb:Array Value) (w:World) (hsz:ptsN lo hi≤1000000) (eg:∀ args w,(callFunc gf args).run Tryz.prog w=.ok (.enter gf args) w)
  (hs:SeqB Fence.wide 4 Tryz.prog gf lb (ptsN lo hi) (FrP lo hi) 3 w) :
  Calls Tryz.prog 60 #[.func (.func gf) #[] lb] w fun e w' => ∃ v,e=.returned v∧RowsO w.heap.size w' v (ptsL lo hi)∧Below w.heap.size w w':=by
 have C:=Lib.hid (appendSeq_any lo hi gf lb w hsz (by decide) (by decide) (by decide) eg hs)
 clear hs
 go_enter Tryz.func60,Tryz.ntmps60
 go_wp2_with fail
 refine C.out.mono ?_
 rintro e w1 ⟨v,rfl,hr,hb⟩
 have HR:=Lib.hid hr
 have HB:=Lib.hid hb
 obtain ⟨a,c,rfl,-⟩:=hr.rows.shape
 clear hr hb C
 go_wp2
 go_ret
 exact ⟨_,rfl,HR.out,HB.out⟩
end Go.Proofs.YtdbnebhehiiakaaGreatDoor
