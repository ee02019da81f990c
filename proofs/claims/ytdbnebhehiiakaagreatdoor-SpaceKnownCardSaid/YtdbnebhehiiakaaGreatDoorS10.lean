/- Lemmas and contracts, each under its own condition: space.key: the contract. space.sortBy at lists of integers, formed, limited, Seq: contracts. space.sortBy at lists of integers: the contract. space.Seq: the contract, for boxes with less than 20 coordinates in row-major or Hilbert order. -/
import Derived.Deep.RegionLaw
import Derived.Laws.Bits64
import Derived.StillTailTactics
import Derived.Deep.RegionHeld3
import Derived.Test.YtdbnebhehiiakaaGreatDoorS7
import Derived.Test.YtdbnebhehiiakaaGreatDoorS8
import Derived.Test.YtdbnebhehiiakaaGreatDoorS9
namespace Go.Proofs.YtdbnebhehiiakaaGreatDoor
open Go.RowKit
def bitsL:Nat→List Int→List Int→Nat
 | m,l :: ls,h :: hs => bitsL (max m (Lib.bitLen (h - l).toNat)) ls hs
 | m,_,_ => m
theorem bitsL_drop {lo hi:List Int} {i m:Nat} {l h:Int} (hl:lo[i]? = some l) (hh:hi[i]? = some h):bitsL m (lo.drop i) (hi.drop i)=bitsL (max m (Lib.bitLen (h - l).toNat)) (lo.drop (i+1)) (hi.drop (i+1)):=by
 rw [drop_cons hl,drop_cons hh,bitsL]
def ofV (order:Int) (b:Nat) (tl:Int):Value:=.func (.func (if order=2 then 105 else if order=3 then 106 else 104)) #[.agg #[.int .i64 (b:Int),.int .i64 tl]] #[]
def RetKey (lo hi:List Int) (vlo vhi:Value) (order tl:Int) (w:World) (e:Ending) (w':World):Prop :=
 ∃ gb gf,e=.returned (.func (.func 107) #[] #[.pointer (some ⟨gb,0,none⟩),.pointer (some ⟨gf,0,none⟩)])∧w'.cell? ⟨gb,0,none⟩=some vlo∧w'.cell? ⟨gb,1,none⟩=some vhi∧w'.cell? ⟨gf,0,none⟩=some (ofV order (bitsL 0 lo hi) tl)∧Below w.heap.size w w'∧w.heap.size≤gb∧w.heap.size≤gf
theorem bitAux_le:∀ (f k x:Nat),x<2 ^ k→Lib.bitLenAux f x≤k
 | 0,k,x,_ => Nat.zero_le _
 | f+1,k,x,h => by
  rw [Lib.bitLenAux]
  split
  ·exact Nat.zero_le _
  ·cases k with
   | zero => omega
   | succ k =>
    have:=bitAux_le f k (x / 2) (by rw [Nat.pow_succ] at h; omega)
    omega
theorem bitLen_le {k x:Nat} (h:x<2 ^ k):Lib.bitLen x≤k:=bitAux_le 64 k x h
theorem bitsL_le {k m:Nat} {lo hi:List Int} (hm:m≤k) (hr:∀ (i:Nat) (a b:Int),lo[i]? = some a→hi[i]? = some b→(b - a).toNat<2 ^ k):bitsL m lo hi≤k:=by
 induction lo generalizing m hi with
 | nil => cases hi <;> exact hm
 | cons l ls ih =>
  cases hi with
  | nil => exact hm
  | cons h hs =>
   rw [bitsL]
   refine ih ?_ (fun i a b ha hb => hr (i+1) a b ha hb)
   have:=bitLen_le (hr 0 l h rfl rfl)
   omega
set_option maxHeartbeats 8000000 in
set_option maxRecDepth 100000 in
theorem key_any (vs vo vlo vhi:Value) (l:LayT) (lo hi:List Int) (w:World) (hl:LayR w vs vo l) (hlo:Ints w vlo lo) (hhi:Ints w vhi hi) (hlen:hi.length=lo.length) (h4:lo.length≤4)
  (hr:∀ (i:Nat) (a b:Int),lo[i]? = some a→hi[i]? = some b→0≤b - a∧b - a≤4095) :
  Calls Tryz.prog 63 #[layV vs vo l,.agg #[vlo,vhi]] w (RetKey lo hi vlo vhi l.order l.tile w):=by
 have HLO:=Lib.hid hlo
 have HHI:=Lib.hid hhi
 have HR:=Lib.hid hr
 have HL:=Lib.hid hlen
 obtain ⟨a1,c1,rfl,-⟩:=hl.sides.shape
 obtain ⟨a2,c2,rfl,-⟩:=hl.over.shape
 obtain ⟨a3,c3,rfl,-⟩:=hlo.shape
 obtain ⟨a4,c4,rfl,-⟩:=hhi.shape
 rw [hlen] at HHI ⊢
 obtain ⟨ss,oo,o,t,f,c'⟩:=l
 simp only
 clear hl hlo hhi hr hlen
 go_enter Tryz.func63,Tryz.ntmps63
 go_wp2
 obtain ⟨W,hW⟩:∃ W,W=((w.alloc (.cells #[.slice a1 ss.length c1,.slice a2 oo.length c2,.int .i64 o,.int .i64 t,.int .i64 f,.int .i64 c'] 38)).alloc (.cells #[.slice a3 lo.length c3,.slice a4 lo.length c4] 44)).alloc (.cells #[.int .i64 0,.int .i64 t] 158):=⟨_,rfl⟩
 have hsz:W.heap.size=w.heap.size+3:=by rw [hW]; simp
 have hBW:Below w.heap.size w W:=by
  rw [hW]; exact (((Below.refl _ w).alloc (Nat.le_refl _) _).alloc (by simp) _).alloc (by simp; omega) _
 have e0:W.cell? ⟨w.heap.size,2,none⟩=some (.int .i64 o):=by
  rw [hW,World.cell?_alloc_lt _ _ _ (by simp; omega),World.cell?_alloc_lt _ _ _ (by simp),World.cell?_alloc_at _ _ _ _ rfl]; rfl
 have e1:W.cell? ⟨w.heap.size+1,0,none⟩=some (.slice a3 lo.length c3):=by
  rw [hW,World.cell?_alloc_lt _ _ _ (by simp),World.cell?_alloc_at _ _ _ _ (by simp)]; rfl
 have e2:W.cell? ⟨w.heap.size+1,1,none⟩=some (.slice a4 lo.length c4):=by
  rw [hW,World.cell?_alloc_lt _ _ _ (by simp),World.cell?_alloc_at _ _ _ _ (by simp)]; rfl
 have e3:W.cell? ⟨w.heap.size+1+1,0,none⟩=some (.int .i64 0):=by
  rw [hW,World.cell?_alloc_at _ _ _ _ (by simp)]; rfl
 have e4:W.cell? ⟨w.heap.size+1+1,1,none⟩=some (.int .i64 t):=by
  rw [hW,World.cell?_alloc_at _ _ _ _ (by simp)]; rfl
 have e5:∀ j,W.frozen? ⟨w.heap.size+1+1,j,none⟩=false:=fun j => by
  rw [hW]; exact World.frozen?_alloc_at _ _ _ _ (by simp)
 have E0:=Lib.hid e0
 have E1:=Lib.hid e1
 have E2:=Lib.hid e2
 have E3:=Lib.hid e3
 have E4:=Lib.hid e4
 have E5:=Lib.hid e5
 have HBW:=Lib.hid hBW
 have HSZ:=Lib.hid hsz
 rw [← hW]
 clear hW e0 e1 e2 e3 e4 e5 hBW hsz
 go_loopw [14] (fun iv wr => ∃ (i m:Nat),i≤lo.length∧iv=.int .i64 (i:Nat)∧m≤64∧Hid (bitsL m (lo.drop i) (hi.drop i)=bitsL 0 lo hi)∧wr.cell? ⟨w.heap.size+1+1,0,none⟩=some (.int .i64 (m:Nat))∧wr.cell? ⟨w.heap.size+1+1,1,none⟩=some (.int .i64 t)∧wr.frozen? ⟨w.heap.size+1+1,0,none⟩=false∧Below (w.heap.size+2) W wr) (fun iv _ => lo.length - (intOf iv).toNat)
 case atStart => exact ⟨0,0,Nat.zero_le _,rfl,by omega,rfl,E3.out,E4.out,E5.out 0,Below.refl _ _⟩
 case round =>
  obtain ⟨i,m,hi',rfl,hm,HM,x0,x1,xf,hb⟩:=hrel
  have HBR:=Lib.hid hb
  have b0:=(hb.cell (p:=⟨w.heap.size+1,0,none⟩) (by show w.heap.size+1<_; omega)).trans E1.out
  have b1:=(hb.cell (p:=⟨w.heap.size+1,1,none⟩) (by show w.heap.size+1<_; omega)).trans E2.out
  by_cases hlt:i<lo.length
  ·obtain ⟨gl,ol,a,el,ha,hra⟩:=Ls.at HLO.out i hlt
   obtain ⟨gh,oh,b,eh,hb',hrb⟩:=Ls.at HHI.out i (by rw [HL.out]; exact hlt)
   subst el eh
   have hg1:=World.block_lt_of_cell? _ _ hra
   have hg2:=World.block_lt_of_cell? _ _ hrb
   have hca:=(hb.cell (p:=⟨gl,ol+i * 1,none⟩) (by have:gl<w.heap.size:=hg1; show gl<_; omega)).trans (cell_later hra HBW.out)
   have hcb:=(hb.cell (p:=⟨gh,oh+i * 1,none⟩) (by have:gh<w.heap.size:=hg2; show gh<_; omega)).trans (cell_later hrb HBW.out)
   rw [Nat.mul_one] at hca hcb
   have hrr:=HR.out i a b ha hb'
   have r0:=hrr.1
   have r1:=hrr.2
   have hn:=HM.out
   rw [bitsL_drop ha hb'] at hn
   have HN:=Lib.hid hn
   have CB:=Lib.hid (fun W => Tryz.bits_Len (b - a) W (by omega) (by omega))
   obtain ⟨k,hk⟩:∃ k,k=Lib.bitLen (b - a).toNat:=⟨_,rfl⟩
   rw [← hk] at CB HN
   have hk64:k≤64:=by
    rw [hk]
    exact Nat.le_trans (bitLen_le (k:=12) (by omega)) (by omega)
   clear ha hb' hra hrb hrr hn hk hb
   clear hg1 hg2
   go_wp2
   have w1:IntKind.i64.wrap (b - a)=b - a:=IntWalk.i64_in _ (by omega)
   have w2:IntKind.u64.wrap (b - a)=b - a:=by rw [IntKind.wrap_u64]; omega
   have i0:(0:Int)≤(i:Int):=by omega
   have i1:(i:Int)<(lo.length:Int):=by omega
   refine wp_region_still_tail 17 (by kernel_rfl) (by kernel_rfl) ?_
   simp only [List.take_succ_cons,List.take_zero,List.drop_succ_cons,List.drop_zero]
   change wpStill _ _ wr.drew _ _ _
   repeat still_step
   still_call (CB.out wr.drew)
   repeat still_step
   refine wpStill_nil ?_
   change wpList _ _ _ _ _ wr.drew
   clear w1 w2
   go_wp2
   refine ⟨⟨i+1,max m k,by omega,by go_num,by omega,HN.out,?_,?_,?_,?_⟩,by show lo.length - _<lo.length - _; simp [intOf]; omega⟩
   ·refine (World.cell?_setCell_same wr _ _ x0).trans ?_
    congr 2
    omega
   ·exact (World.cell?_setCell_other wr _ _ _ (fun e => by injection e with _ e; omega)).trans x1
   ·show (wr.setCell _ _).frozen? _=_
    rw [World.frozen?_setCell]; exact xf
   ·exact (HBR.out.setCell (p:=⟨w.heap.size+1+1,0,none⟩) (Nat.le_refl _) _).drew
  ·obtain rfl:i=lo.length:=by omega
   have hn:=HM.out
   rw [List.drop_length,bitsL] at hn
   ·have HN:=Lib.hid hn
    have hlt1:w.heap.size+2<wr.heap.size:=World.block_lt_of_cell? _ _ x0
    have o0:=(hb.cell (p:=⟨w.heap.size,2,none⟩) (by show w.heap.size<_; omega)).trans E0.out
    have n1:w.heap.size<wr.heap.size:=by omega
    have n2:w.heap.size ≠ wr.heap.size:=by omega
    have n3:w.heap.size+1+1 ≠ wr.heap.size:=by omega
    have n4:w.heap.size+1+1<wr.heap.size:=by omega
    have HBF:=Lib.hid (HBW.out.trans (hb.mono (by omega)))
    have B0:=Lib.hid b0
    have B1:=Lib.hid b1
    have FIN:Hid (∀ w',Below wr.heap.size wr w'→w'.cell? ⟨wr.heap.size,0,none⟩=some (ofV o (bitsL 0 lo hi) t)→RetKey lo hi (.slice a3 lo.length c3) (.slice a4 lo.length c4) o t w (.returned (.func (.func 107) #[] #[.pointer (some ⟨w.heap.size+1,0,none⟩),.pointer (some ⟨wr.heap.size,0,none⟩)])) w'):=fun w' hb' hc' =>
     ⟨_,_,rfl,cell_later B0.out hb',cell_later B1.out hb',hc',HBF.out.trans (hb'.mono HBF.out.size),Nat.le_succ _,HBF.out.size⟩
    clear hb hn HM b0 b1 hlt1
    by_cases ho2:o=2
    ·subst ho2
     go_wp2
     go_ret
     refine FIN.out _ (below_alloc wr _) ?_
     rw [World.cell?_alloc_at _ _ _ _ rfl,← HN.out]; rfl
    ·have q2:(o == 2)=false:=by rw [beq_eq_false_iff_ne]; exact ho2
     by_cases ho3:o=3
     ·subst ho3
      go_wp2
      go_ret
      refine FIN.out _ (below_alloc wr _) ?_
      rw [World.cell?_alloc_at _ _ _ _ rfl,← HN.out]; rfl
     ·have q3:(o == 3)=false:=by rw [beq_eq_false_iff_ne]; exact ho3
      have HO:=Lib.hid (show ofV o m t=.func (.func 104) #[.agg #[.int .i64 (m:Int),.int .i64 t]] #[] from by unfold ofV; rw [if_neg ho2,if_neg ho3])
      clear ho2 ho3
      go_wp2
      go_ret
      refine FIN.out _ (below_alloc wr _) ?_
      rw [World.cell?_alloc_at _ _ _ _ rfl,← HN.out,HO.out]; rfl
   ·intro _ _ _ _ h; cases h
set_option maxHeartbeats 4000000 in
set_option maxRecDepth 100000 in
theorem sortCmp_any (gb gf gk:Nat) (vx vy:Value) (kx ky:List Int) (w:World) (hk:w.cell? ⟨gk,0,none⟩=some (.func (.func 107) #[] #[.pointer (some ⟨gb,0,none⟩),.pointer (some ⟨gf,0,none⟩)]))
  (hsx:∃ a n c,vx=.slice a n c) (hsy:∃ a n c,vy=.slice a n c)
  (hx:∀ w1,Below w.heap.size w w1→Calls Tryz.prog 107 #[vx,.pointer (some ⟨gb,0,none⟩),.pointer (some ⟨gf,0,none⟩)] w1 fun e w' => ∃ u,e=.returned u∧Ints w' u kx∧Below w1.heap.size w1 w')
  (hy:∀ w1,Below w.heap.size w w1→Calls Tryz.prog 107 #[vy,.pointer (some ⟨gb,0,none⟩),.pointer (some ⟨gf,0,none⟩)] w1 fun e w' => ∃ u,e=.returned u∧Ints w' u ky∧Below w1.heap.size w1 w') :
  Calls Tryz.prog 102 #[vx,vy,.pointer (some ⟨gk,0,none⟩)] w fun e w' => e=.returned (.int .i64 (cmpI kx ky))∧Below w.heap.size w w':=by
 have HX:=Lib.hid hx
 have HY:=Lib.hid hy
 have HK:=Lib.hid hk
 obtain ⟨a1,n1,c1,rfl⟩:=hsx
 obtain ⟨a2,n2,c2,rfl⟩:=hsy
 have eg:∀ args w,(callFunc 107 args).run Tryz.prog w=.ok (.enter 107 args) w:=enters_of Tryz.func107 (by kernel_rfl) rfl
 have K:Hid (∀ w',Below w.heap.size w w'→w'.cell? ⟨gk,0,none⟩=some (.func (.func 107) #[] #[.pointer (some ⟨gb,0,none⟩),.pointer (some ⟨gf,0,none⟩)])∧Below w.heap.size w w'):=fun w' hb => ⟨cell_later HK.out hb,hb⟩
 clear hx hy hk
 go_enter Tryz.func102,Tryz.ntmps102
 go_wp2
 have hb0:Below w.heap.size w w.drew:=(Below.refl _ _).drew
 go_region_held3 (fun w' => w'.cell? ⟨gk,0,none⟩=some (.func (.func 107) #[] #[.pointer (some ⟨gb,0,none⟩),.pointer (some ⟨gf,0,none⟩)])∧Below w.heap.size w w')
  (first | exact K.out _ (by assumption))
  (first
   | (go_at_call_of 107 (Value.slice a1 n1 c1); refine (HX.out _ (by assumption)).mono ?_; rintro e w1 ⟨u1,rfl,hu1,hb1⟩; have hB1:=below_keep (by assumption) hb1)
   | (go_at_call_of 107 (Value.slice a2 n2 c2); refine (HY.out _ (by assumption)).mono ?_; rintro e w2 ⟨u2,rfl,hu2,hb2⟩; have hB2:=below_keep (by assumption) hb2)
   | (go_at_call 70; refine (compare_any kx ky u1 u2 _ (hu1.later IntR.lasts hb2) hu2).mono ?_; rintro e w3 ⟨rfl,rfl⟩)
   | (go_at_call 70; refine (compare_any kx ky u1 u2 _ hu1 (hu2.later IntR.lasts hb1)).mono ?_; rintro e w3 ⟨rfl,rfl⟩))
 all_goals
  first
   | have HB:=Lib.hid hB2
   | have HB:=Lib.hid hB1
  go_wp2
  go_ret
  exact ⟨rfl,by first | exact hB1 | exact hB2⟩
def formedB (lo hi:List Int):Bool:=decide (lo.length=hi.length) && decide (0<lo.length) && decide (lo.length≤4)
theorem formed_any (vlo vhi:Value) (lo hi:List Int) (w:World) (hlo:Ints w vlo lo) (hhi:Ints w vhi hi):Calls Tryz.prog 58 #[.agg #[vlo,vhi]] w (RetV' (.bool (formedB lo hi)) w):=by
 obtain ⟨a1,c1,rfl,-⟩:=hlo.shape
 obtain ⟨a2,c2,rfl,-⟩:=hhi.shape
 unfold formedB
 generalize lo.length=m
 generalize hi.length=n
 clear hlo hhi
 by_cases h1:m=n
 ·subst h1
  by_cases h2:0<m
  ·rw [decide_eq_true rfl,decide_eq_true h2,Bool.true_and,Bool.true_and]
   by_cases h3:m≤4
   ·rw [decide_eq_true h3]
    have h2':(0:Int)<(m:Int):=by omega
    have h3':(m:Int)≤4:=by omega
    go_enter Tryz.func58,Tryz.ntmps58
    go_wp2
    go_ret
    exact ⟨ret_bool (by simp),below_alloc _ _⟩
   ·rw [decide_eq_false h3]
    have h2':(0:Int)<(m:Int):=by omega
    have h3':¬ (m:Int)≤4:=by omega
    go_enter Tryz.func58,Tryz.ntmps58
    go_wp2
    go_ret
    exact ⟨ret_bool (by simp),below_alloc _ _⟩
  ·rw [decide_eq_false h2,Bool.and_false,Bool.false_and]
   obtain rfl:m=0:=by omega
   go_enter Tryz.func58,Tryz.ntmps58
   go_wp2
   go_ret
   exact ⟨ret_bool (by simp),below_alloc _ _⟩
 ·rw [decide_eq_false h1,Bool.false_and,Bool.false_and]
  have h1':¬ (m:Int)=(n:Int):=by omega
  go_enter Tryz.func58,Tryz.ntmps58
  go_wp2
  go_ret
  exact ⟨ret_bool (by simp),below_alloc _ _⟩
def limA:List Int→List Int→Bool
 | l :: ls,h :: hs => if 1073741825≤h ∨ h<l then true else limA ls hs
 | _,_ => false
def limB:Int→List Int→List Int→Option Int
 | n,l :: ls,h :: hs => if 4096≤h - l then none else limB (n * (h - l+1)) ls hs
 | n,_,_ => some n
def limF:Option Int→Int
 | none => 9
 | some n => if 4096<n then 9 else 0
def limE (lo hi:List Int):Int:=if limA lo hi=true then 3 else limF (limB 1 lo hi)
theorem limA_drop {lo hi:List Int} {i:Nat} {l h:Int} (hl:lo[i]? = some l) (hh:hi[i]? = some h):limA (lo.drop i) (hi.drop i)=if 1073741825≤h ∨ h<l then true else limA (lo.drop (i+1)) (hi.drop (i+1)):=by
 rw [drop_cons hl,drop_cons hh,limA]
theorem limB_drop {n:Int} {lo hi:List Int} {i:Nat} {l h:Int} (hl:lo[i]? = some l) (hh:hi[i]? = some h):limB n (lo.drop i) (hi.drop i)=if 4096≤h - l then none else limB (n * (h - l+1)) (lo.drop (i+1)) (hi.drop (i+1)):=by
 rw [drop_cons hl,drop_cons hh,limB]
theorem limA_get {lo hi:List Int} (h:limA lo hi=false) {i:Nat} {l k:Int} (hl:lo[i]? = some l) (hh:hi[i]? = some k):k<1073741825∧l≤k:=by
 induction lo generalizing hi i with
 | nil => simp at hl
 | cons a ls ih =>
  cases hi with
  | nil => simp at hh
  | cons b hs =>
   rw [limA] at h
   split at h
   ·cases h
   ·rename_i h2
    cases i with
    | zero =>
     simp only [List.getElem?_cons_zero,Option.some.injEq] at hl hh
     subst hl hh
     omega
    | succ i => exact ih h hl hh
theorem limB_get {n m:Int} {lo hi:List Int} (h:limB n lo hi=some m) {i:Nat} {l k:Int} (hl:lo[i]? = some l) (hh:hi[i]? = some k):k - l<4096:=by
 induction lo generalizing hi i n with
 | nil => simp at hl
 | cons a ls ih =>
  cases hi with
  | nil => simp at hh
  | cons b hs =>
   rw [limB] at h
   split at h
   ·cases h
   ·rename_i h2
    cases i with
    | zero =>
     simp only [List.getElem?_cons_zero,Option.some.injEq] at hl hh
     subst hl hh
     omega
    | succ i => exact ih h hl hh
def B4096 (i:Nat):Int:=4096 ^ i
theorem B4096_step {n t:Int} {i:Nat} (h0:0≤n) (h1:n≤B4096 i) (t0:0≤t) (t1:t≤4096):0≤n * t∧n * t≤B4096 (i+1):=by
 refine ⟨Int.mul_nonneg h0 t0,?_⟩
 unfold B4096 at *
 rw [Int.pow_succ]
 exact Int.mul_le_mul h1 t1 t0 (Int.le_trans h0 h1)
theorem B4096_top {i:Nat} (h:i≤4):B4096 i≤281474976710656:=by
 have:i=0 ∨ i=1 ∨ i=2 ∨ i=3 ∨ i=4:=by omega
 unfold B4096
 rcases this with rfl | rfl | rfl | rfl | rfl <;> decide
set_option maxHeartbeats 8000000 in
set_option maxRecDepth 100000 in
theorem limited_any (vlo vhi:Value) (lo hi:List Int) (w:World) (hlo:Ints w vlo lo) (hhi:Ints w vhi hi) (hlen:hi.length=lo.length) (h4:lo.length≤4) (hmin:∀ x ∈ lo,-9223372036854775808≤x) :
  Calls Tryz.prog 59 #[.agg #[vlo,vhi]] w (RetV' (.int .i64 (limE lo hi)) w):=by
 have HLO:=Lib.hid hlo
 have HHI:=Lib.hid hhi
 have HL:=Lib.hid hlen
 have HM:=Lib.hid hmin
 obtain ⟨a1,c1,rfl,-⟩:=hlo.shape
 obtain ⟨a2,c2,rfl,-⟩:=hhi.shape
 rw [hlen] at HHI ⊢
 obtain ⟨R,hR⟩:∃ R:Int,R=limE lo hi:=⟨_,rfl⟩
 rw [← hR]
 have HR:=Lib.hid hR
 clear hlo hhi hlen hR hmin
 go_enter Tryz.func59,Tryz.ntmps59
 go_wp2
 obtain ⟨W,hW⟩:∃ W,W=w.alloc (.cells #[.slice a1 lo.length c1,.slice a2 lo.length c2] 44):=⟨_,rfl⟩
 have HBW:Hid (Below w.heap.size w W):=by show Below _ _ _; rw [hW]; exact below_alloc _ _
 have e0:W.cell? ⟨w.heap.size,0,none⟩=some (.slice a1 lo.length c1):=by rw [hW,World.cell?_alloc_at _ _ _ _ rfl]; rfl
 have e1:W.cell? ⟨w.heap.size,1,none⟩=some (.slice a2 lo.length c2):=by rw [hW,World.cell?_alloc_at _ _ _ _ rfl]; rfl
 rw [← hW]
 clear hW
 have HLW:=Lib.hid (HLO.out.later IntR.lasts HBW.out)
 have HHW:=Lib.hid (HHI.out.later IntR.lasts HBW.out)
 go_loop [12] (fun iv => ∃ i:Nat,i≤lo.length∧iv=.int .i64 (i:Nat)∧Hid (limA (lo.drop i) (hi.drop i)=limA lo hi)) (fun iv => lo.length - (intOf iv).toNat)
 case atStart => exact ⟨0,Nat.zero_le _,rfl,rfl⟩
 case round =>
  obtain ⟨i,hi',rfl,HN⟩:=hrel
  by_cases hlt:i<lo.length
  ·obtain ⟨gl,ol,l,el,hl,hrl⟩:=HLW.out.at i hlt
   obtain ⟨gh,oh,h,eh,hh,hrh⟩:=HHW.out.at i (by rw [HL.out]; exact hlt)
   subst el eh
   rw [Nat.mul_one] at hrl hrh
   unfold IntR at hrl hrh
   have hn:=HN.out
   rw [limA_drop hl hh] at hn
   by_cases hbad:1073741825≤h ∨ h<l
   ·rw [if_pos hbad] at hn
    have HRR:Hid (R=3):=by show _=_; rw [HR.out]; unfold limE; rw [if_pos hn.symm]
    have hcase:1073741825≤h ∨ (¬ 1073741825≤h∧h<l):=by omega
    clear hbad hn hl hh
    rcases hcase with q | ⟨q,q'⟩
    all_goals
     go_wp2
     go_ret
     rw [HRR.out]
     exact ⟨rfl,HBW.out⟩
   ·rw [if_neg hbad] at hn
    have HNN:=Lib.hid hn
    have q1:¬ 1073741825≤h:=by omega
    have q2:¬ h<l:=by omega
    clear hbad hn hl hh
    go_wp2
    exact ⟨⟨i+1,by omega,by go_num,HNN.out⟩,by show lo.length - _<lo.length - _; simp [intOf]; omega⟩
  ·obtain rfl:i=lo.length:=by omega
   have hn:=HN.out
   rw [List.drop_length,limA] at hn
   ·have HA:=Lib.hid hn.symm
    have HRB:Hid (R=limF (limB 1 lo hi)):=by show _=_; rw [HR.out]; unfold limE; rw [if_neg (by rw [HA.out]; decide)]
    clear hn HN
    go_wp2
    go_loop [5,32] (fun nv iv => ∃ (i:Nat) (n:Int),i≤lo.length∧iv=.int .i64 (i:Nat)∧nv=.int .u64 n∧Hid (limB n (lo.drop i) (hi.drop i)=limB 1 lo hi)∧Hid (0≤n∧n≤B4096 i)) (fun _ iv => lo.length - (intOf iv).toNat)
    case atStart => exact ⟨0,1,Nat.zero_le _,rfl,rfl,rfl,by omega,by unfold B4096; decide⟩
    case round =>
     obtain ⟨i,n,hi',rfl,rfl,HN,HNB⟩:=hrel
     by_cases hlt:i<lo.length
     ·obtain ⟨gl,ol,l,el,hl,hrl⟩:=HLW.out.at i hlt
      obtain ⟨gh,oh,h,eh,hh,hrh⟩:=HHW.out.at i (by rw [HL.out]; exact hlt)
      subst el eh
      rw [Nat.mul_one] at hrl hrh
      unfold IntR at hrl hrh
      have hn:=HN.out
      rw [limB_drop hl hh] at hn
      have hg:=limA_get HA.out hl hh
      have g1:=hg.1
      have g2:=hg.2
      have g3:=HM.out l (List.mem_of_getElem? hl)
      have hw:IntKind.u64.wrap (IntKind.u64.wrap h - IntKind.u64.wrap l)=h - l:=by
       rw [IntKind.wrap_u64,IntKind.wrap_u64,IntKind.wrap_u64]; omega
      by_cases hbad:4096≤h - l
      ·rw [if_pos hbad] at hn
       have HRR:Hid (R=9):=by show _=_; rw [HRB.out,← hn]; rfl
       clear hn hl hh hg
       go_wp2
       go_ret
       rw [HRR.out]
       exact ⟨rfl,HBW.out⟩
      ·rw [if_neg hbad] at hn
       have HNN:=Lib.hid hn
       have hst:=B4096_step HNB.out.1 HNB.out.2 (t:=h - l+1) (by omega) (by omega)
       have HST:=Lib.hid hst
       have m0:0≤n * (h - l+1):=hst.1
       have m1:n * (h - l+1)≤281474976710656:=Int.le_trans hst.2 (B4096_top (by omega))
       clear hn hl hh hg hst
       go_wp2
       exact ⟨⟨i+1,_,by omega,by go_num,rfl,HNN.out,HST.out⟩,by show lo.length - _<lo.length - _; simp [intOf]; omega⟩
     ·obtain rfl:i=lo.length:=by omega
      have hn:=HN.out
      rw [List.drop_length,limB] at hn
      ·have HRN:Hid (R=if 4096<n then 9 else 0):=by show _=_; rw [HRB.out,← hn]; rfl
       clear hn
       by_cases hbig:4096<n
       ·have HRR:Hid (R=9):=by show _=_; rw [HRN.out,if_pos hbig]
        go_wp2
        go_ret
        rw [HRR.out]
        exact ⟨rfl,HBW.out⟩
       ·have HRR:Hid (R=0):=by show _=_; rw [HRN.out,if_neg hbig]
        go_wp2
        go_ret
        rw [HRR.out]
        exact ⟨rfl,HBW.out⟩
      ·intro _ _ _ _ h; cases h
   ·intro _ _ _ _ h; cases h
structure KeyC (w:World) (gb gf:Nat) (vlo fv:Value):Prop where
 lo:w.cell? ⟨gb,0,none⟩=some vlo
 fn:w.cell? ⟨gf,0,none⟩=some fv
abbrev keyV (gb gf:Nat):Value:=.func (.func 107) #[] #[.pointer (some ⟨gb,0,none⟩),.pointer (some ⟨gf,0,none⟩)]
def PtOk (lo x:List Int):Prop:=x.length=lo.length∧∀ (i:Nat) (a l:Int),x[i]? = some a→lo[i]? = some l→0≤a - l∧a - l≤4095
theorem rowsO_row {n₀:Nat} {w:World} {v:Value} {l:List (List Int)} (h:RowsO n₀ w v l) (h0:0<l.length):∃ (g cap:Nat) (xs:List ElT),v=.slice (some ⟨g,0,none⟩) l.length cap∧n₀≤g∧g<w.heap.size∧xs.map Prod.snd=l∧RowU w g xs∧l.length≤cap∧cap≤9223372036854775807∧TagB w g 36 ∧ ∀ x ∈ xs,IntsO w x.1 x.2:=by
 obtain ⟨vals,ho,hx⟩:=h
 have hl:=ho.1
 rw [Nat.mul_one] at hl
 have hc:∀ {g:Nat},v.ownBlock=some g→∀ j u,vals[j]? = some u→w.cell? ((⟨g,0,none⟩:Addr).add j)=some u:=fun hg => ho.cells hg
 have ht:=ownsRow_tag ho
 rcases ho.2 with ⟨rfl,h1⟩ | ⟨g,cap,cur,rfl,h1,h2,h3,h4,h5,h6⟩
 ·omega
 ·unfold maxLen at h4
  refine ⟨g,cap,vals.zip l,rfl,h1,(ht g rfl).lt,by rw [List.map_snd_zip (by omega)],⟨fun i x hi => ?_,fun i => by simp [World.frozen?,h2]⟩,h3,h4,ht g rfl,fun x hx' => ?_⟩
  ·rw [List.getElem?_zip_eq_some] at hi
   have:=hc (g:=g) rfl i x.1 hi.1
   rwa [show (⟨g,0,none⟩:Addr).add i=⟨g,i,none⟩ from by unfold Addr.add; split <;> simp_all] at this
  ·obtain ⟨i,hi⟩:=List.mem_iff_getElem?.1 hx'
   rw [List.getElem?_zip_eq_some] at hi
   exact hx i x.2 x.1 hi.2 hi.1
set_option maxHeartbeats 4000000 in
theorem sortBy_any (F:List Int→List Int) (lo:List Int) (vlo fv v:Value) (gb gf:Nat) (w0 w:World) (l:List (List Int)) (hb:Below w0.heap.size w0 w) (hr:RowsO w0.heap.size w v l) (hk:KeyC w gb gf vlo fv) (hne:∀ g,v.ownBlock=some g→g ≠ gb∧g ≠ gf) (hlo:Ints w0 vlo lo) (hF:FnOf fv F lo.length)
  (hx:∀ x ∈ l,PtOk lo x) (h1:1≤lo.length) (h4:lo.length≤4) (h0:1≤l.length) (h20:l.length<20) :
  Calls Tryz.prog 62 #[v,keyV gb gf] w fun e w' => e=.returned (.tuple #[])∧∃ l',l'.Perm l∧SortK (fun x => F (subL x lo)) l'∧RowsI w' v l'∧Below w0.heap.size w0 w':=by
 obtain ⟨g,cap,xs,rfl,hg0,hgl,hxs,hru,hcap,hcap2,htg,hio⟩:=rowsO_row hr h0
 obtain ⟨hgb,hgf⟩:=hne g rfl
 have hT : 36 ≠ 3:=by decide
 obtain ⟨W,hW⟩:∃ W,W=w.alloc (.cells #[keyV gb gf] 117):=⟨_,rfl⟩
 have hbW:Below w.heap.size w W:=by rw [hW]; exact below_alloc _ _
 have hWs:W.heap.size=w.heap.size+1:=by rw [hW]; simp
 have hck:W.cell? ⟨w.heap.size,0,none⟩=some (keyV gb gf):=by rw [hW,World.cell?_alloc_at _ _ _ _ rfl]; rfl
 have hglt:gb<w.heap.size:=World.block_lt_of_cell? _ _ hk.lo
 have hflt:gf<w.heap.size:=World.block_lt_of_cell? _ _ hk.fn
 have hn:xs.length=l.length:=by rw [← hxs,List.length_map]
 have C:=Lib.hid (sortStable_small 102 #[.pointer (some ⟨w.heap.size,0,none⟩)] (fun e => F (subL e.2 lo)) xs g l.length cap W (enters_of Tryz.func102 (by kernel_rfl) rfl)
  (hru.kept (hbW.block g hgl)) (fun x hx' => (hio x hx').ints.shape.elim fun a ha => ha.elim fun c hc => ⟨a,_,c,hc.1⟩)
  (by
   intro W1 x y hgr hx1 hy1
   have hcell:∀ a,a.block<W.heap.size→a.block ≠ g→W1.cell? a=W.cell? a:=fun a h1 h2 => hgr.cell_far a h1 (fun e => h2 (by injection e))
   have hB1:Below w0.heap.size w0 W1:=(hb.trans (hbW.mono hb.size)).grown hgr (Nat.le_trans hb.size hbW.size) (fun k e => by cases e; exact hg0)
   have key:∀ e:ElT,e ∈ xs→∀ w2,Below W1.heap.size W1 w2→Calls Tryz.prog 107 #[e.1,.pointer (some ⟨gb,0,none⟩),.pointer (some ⟨gf,0,none⟩)] w2 fun e' w' => ∃ u,e'=.returned u∧Ints w' u (F (subL e.2 lo))∧Below w2.heap.size w2 w':=by
    intro e he w2 hb2
    have hpt:=hx e.2 (by rw [← hxs]; exact List.mem_map.2 ⟨e,he,rfl⟩)
    have hi1:IntsO W1 e.1 e.2:=((hio e he).later hbW).grown hgr (fun r er e2 => by
     cases er
     exact htg.ne ((hio e he).tag g e2) hT rfl)
    refine key1_any F fv vlo e.1 lo e.2 gb gf w2 hF ?_ ?_ ((hlo.later IntR.lasts hB1).later IntR.lasts hb2) (hi1.later hb2).ints hpt.1 h1 h4 hpt.2
    ·exact cell_later ((hcell ⟨gb,0,none⟩ (by show gb<_; omega) (by show gb ≠ _; exact fun e => hgb e.symm)).trans (cell_later hk.lo hbW)) hb2
    ·exact cell_later ((hcell ⟨gf,0,none⟩ (by show gf<_; omega) (by show gf ≠ _; exact fun e => hgf e.symm)).trans (cell_later hk.fn hbW)) hb2
   exact sortCmp_any gb gf w.heap.size x.1 y.1 (F (subL x.2 lo)) (F (subL y.2 lo)) W1 ((hcell ⟨w.heap.size,0,none⟩ (by show w.heap.size<_; omega) (by show w.heap.size ≠ _; omega)).trans hck)
    ((hio x hx1).ints.shape.elim fun a ha => ha.elim fun c hc => ⟨a,_,c,hc.1⟩) ((hio y hy1).ints.shape.elim fun a ha => ha.elim fun c hc => ⟨a,_,c,hc.1⟩) (key x hx1) (key y hy1))
  hn h0 h20)
 have POST:Hid (∀ W1 (zs:List ElT),zs.Perm xs→SortK (fun e:ElT => F (subL e.2 lo)) zs→RowU W1 g zs→W.grownBy W1 (some g)→∃ l',l'.Perm l∧SortK (fun x => F (subL x lo)) l'∧RowsI W1 (.slice (some ⟨g,0,none⟩) l.length cap) l'∧Below w0.heap.size w0 W1):=by
  intro W1 zs hp hs hu hgr
  refine ⟨zs.map Prod.snd,by rw [← hxs]; exact hp.map _,List.pairwise_map.2 hs,?_,(hb.trans (hbW.mono hb.size)).grown hgr (Nat.le_trans hb.size hbW.size) (fun k e => by cases e; exact hg0)⟩
  have hzl:(zs.map Prod.snd).length=l.length:=by rw [List.length_map,hp.length_eq,hn]
  rw [← hzl] at hcap ⊢
  refine ⟨_,cap,rfl,hcap,hcap2,fun _ => ⟨g,0,rfl,fun i x hi => ?_⟩⟩
  rw [List.getElem?_map] at hi
  obtain ⟨z,hz,rfl⟩:=Option.map_eq_some_iff.1 hi
  have hzm:z ∈ xs:=hp.mem_iff.1 (List.mem_of_getElem? hz)
  refine ⟨z.1,by rw [Nat.zero_add,Nat.mul_one]; exact hu.cell i z hz,?_⟩
  exact (((hio z hzm).later hbW).grown hgr (fun r er e2 => by
     cases er
     exact htg.ne ((hio z hzm).tag g e2) hT rfl)).ints
 have HWE:=Lib.hid hW
 rw [hW] at C
 clear hr hk hlo hF hx hru hio hbW hck hxs hW
 go_enter Tryz.func62,Tryz.ntmps62
 go_wp2_with fail
 refine C.out.mono ?_
 rintro e w1 ⟨rfl,zs,h1',h2',h3',h4'⟩
 have P1:=Lib.hid (POST.out w1 zs h1' h2' h3' (by rw [HWE.out]; exact h4'))
 clear h1' h2' h3' h4' C POST
 go_wp2
 go_end0
 exact ⟨rfl,P1.out⟩
def keyF (order tl:Int) (b:Nat) (y:List Int):List Int:=if order=2 then [hilZ b y] else if order=3 then y.map (· / tl) ++ y else y
theorem ofV_fn (order tl:Int) (b n:Nat) (h1:1≤n) (h4:n≤4) (hb:b≤12) (ho:order ≠ 3):FnOf (ofV order b tl) (keyF order tl b) n:=by
 have e1:keyF order tl b=if order=2 then (fun y => [hilZ b y]) else (fun y => y):=by
  funext y
  unfold keyF
  by_cases h2:order=2 <;> simp [h2,ho]
 have e2:ofV order b tl=.func (.func (if order=2 then 105 else 104)) #[.agg #[.int .i64 (b:Int),.int .i64 tl]] #[]:=by
  unfold ofV
  rw [if_neg ho]
 rw [e1,e2]
 by_cases h:order=2
 ·rw [if_pos h,if_pos h]
  exact hilbert_fn b tl n h1 h4 hb
 ·rw [if_neg h,if_neg h]
  exact row_fn b tl n
theorem lim_wide {lo hi:List Int} (hl:lo.length=hi.length) (h:limA lo hi=false):wideB lo hi:=by
 induction lo generalizing hi with
 | nil => cases hi with
  | nil => trivial
  | cons _ _ => simp at hl
 | cons a ls ih => cases hi with
  | nil => simp at hl
  | cons b hs =>
   rw [limA] at h
   split at h
   ·cases h
   ·exact ⟨by omega,ih (by simpa using hl) h⟩
theorem limE_zero {lo hi:List Int} (h:limE lo hi=0):limA lo hi=false∧∃ n,limB 1 lo hi=some n∧n≤4096:=by
 unfold limE at h
 split at h
 ·cases h
 ·rename_i h1
  refine ⟨by simpa using h1,?_⟩
  cases hb:limB 1 lo hi with
  | none => rw [hb] at h; cases h
  | some n =>
   rw [hb] at h
   unfold limF at h
   refine ⟨n,rfl,?_⟩
   simp only at h
   split at h
   ·cases h
   ·omega
theorem pts_ok {lo hi:List Int} (h:limE lo hi=0) (hl:lo.length=hi.length) {x:List Int} (hx:x ∈ ptsL lo hi):PtOk lo x:=by
 obtain ⟨h1,n,h2,h3⟩:=limE_zero h
 have hin:=ptsL_in (lim_wide hl h1) hx
 refine ⟨hin.1,fun i a l ha hlo => ?_⟩
 have hlt:=(List.getElem?_eq_some_iff.1 hlo).1
 obtain ⟨k,hk⟩:∃ k,hi[i]? = some k:=⟨_,List.getElem?_eq_getElem (by omega)⟩
 have:=hin.2 i a l k ha hlo hk
 have:=limB_get h2 hlo hk
 omega
def RetRows (P:List (List Int)→Prop) (r:Int) (w:World) (e:Ending) (w':World):Prop:=∃ v l,e=.returned (.tuple #[v,.int .i64 r])∧P l∧RowsI w' v l∧Below w.heap.size w w'
theorem RowsI.nil (w:World):RowsI w (.slice none 0 0) []:=Ls.nil _ _ _ (by omega)
def SortedBy (l:LayT) (lo hi:List Int) (r:List (List Int)):Prop:=r.Perm (ptsL lo hi)∧SortK (fun x => keyF l.order l.tile (bitsL 0 lo hi) (subL x lo)) r
theorem RowsO.base {n₀ n:Nat} {w:World} {v:Value} {l:List (List Int)} (h:RowsO n w v l) (hn:n₀≤n):RowsO n₀ w v l:=by
 obtain ⟨vals,ho,hx⟩:=h
 refine ⟨vals,⟨ho.1,?_⟩,hx⟩
 rcases ho.2 with h | ⟨g,cap,cur,e,h1,h2⟩
 ·exact .inl h
 ·exact .inr ⟨g,cap,cur,e,Nat.le_trans hn h1,h2⟩
set_option maxHeartbeats 8000000 in
set_option maxRecDepth 100000 in
theorem seq_small (vs vo vlo vhi:Value) (l:LayT) (lo hi:List Int) (w:World) (hl:LayR w vs vo l) (hlo:Ints w vlo lo) (hhi:Ints w vhi hi) (hmin:∀ x ∈ lo,-9223372036854775808≤x) (h:orderedB l.order l.tile=true) (h2:formedB lo hi=true) (h3:limE lo hi=0) (hfn:FnOf (ofV l.order (bitsL 0 lo hi) l.tile) (keyF l.order l.tile (bitsL 0 lo hi)) lo.length) (h20:ptsN lo hi<20) :
  Calls Tryz.prog 19 #[layV vs vo l,.agg #[vlo,vhi]] w (RetRows (SortedBy l lo hi) 0 w):=by
 have hfm:=h2
 unfold formedB at hfm
 simp only [Bool.and_eq_true,decide_eq_true_eq] at hfm
 have HFM:=Lib.hid hfm
 obtain ⟨hA,nB,hB,hB2⟩:=limE_zero h3
 have HWD:=Lib.hid (lim_wide hfm.1.1 hA)
 have HPO:=Lib.hid (fun x hx => pts_ok h3 hfm.1.1 (x:=x) hx)
 have HRG:Hid (∀ (i:Nat) (a b:Int),lo[i]? = some a→hi[i]? = some b→0≤b - a∧b - a≤4095):=fun i a b ha hb => by
  have:=limA_get hA ha hb
  have:=limB_get hB ha hb
  omega
 have HHB:Hid (∀ x ∈ hi,x≤9223372036854775807):=fun x hx => by
  obtain ⟨i,hi'⟩:=List.mem_iff_getElem?.1 hx
  have hlt:=(List.getElem?_eq_some_iff.1 hi').1
  obtain ⟨a,ha⟩:∃ a,lo[i]? = some a:=⟨_,List.getElem?_eq_getElem (by omega)⟩
  have:=limA_get hA ha hi'
  omega
 have C:=Lib.hid (fun w1 (hb:Below w.heap.size w w1) => ordered_any vs vo l w1 (hl.later hb))
 have CF:=Lib.hid (fun w1 (hb:Below w.heap.size w w1) => formed_any vlo vhi lo hi w1 (hlo.later IntR.lasts hb) (hhi.later IntR.lasts hb))
 have CL:=Lib.hid (fun w1 (hb:Below w.heap.size w w1) => limited_any vlo vhi lo hi w1 (hlo.later IntR.lasts hb) (hhi.later IntR.lasts hb) hfm.1.1.symm hfm.2 hmin)
 have CK:=Lib.hid (fun w1 (hb:Below w.heap.size w w1) => key_any vs vo vlo vhi l lo hi w1 (hl.later hb) (hlo.later IntR.lasts hb) (hhi.later IntR.lasts hb) hfm.1.1.symm hfm.2 HRG.out)
 have HMIN:=Lib.hid hmin
 have HLO:=Lib.hid hlo
 have HHI:=Lib.hid hhi
 have HFN:=Lib.hid hfn
 rw [h] at C
 rw [h2] at CF
 rw [h3] at CL
 obtain ⟨a1,c1,rfl,-⟩:=hl.sides.shape
 obtain ⟨a2,c2,rfl,-⟩:=hl.over.shape
 obtain ⟨a3,c3,rfl,-⟩:=hlo.shape
 obtain ⟨a4,c4,rfl,-⟩:=hhi.shape
 have HSB:Hid (∀ r,r.Perm (ptsL lo hi)→SortK (fun x => keyF l.order l.tile (bitsL 0 lo hi) (subL x lo)) r→SortedBy l lo hi r):=fun r h1 h2 => ⟨h1,h2⟩
 obtain ⟨ss,oo,o,t,f,c'⟩:=l
 simp only at HFN HSB
 clear hl hlo hhi h h2 h3 hmin hfm hA hB hB2 hfn
 go_enter Tryz.func19,Tryz.ntmps19
 go_wp2_with fail
 refine (C.out _ ((below_alloc _ _).trans ((below_alloc _ _).mono (by simp)))).mono ?_
 rintro e w1 ⟨rfl,hb⟩
 have HB:=Lib.hid (((below_alloc _ _).trans ((below_alloc _ _).mono (by simp))).trans (hb.mono (by simp; omega)))
 have hc:∀ j,w1.cell? ⟨w.heap.size+1,j,none⟩=((w.alloc (.cells #[.slice a1 ss.length c1,.slice a2 oo.length c2,.int .i64 o,.int .i64 t,.int .i64 f,.int .i64 c'] 38)).alloc (.cells #[.slice a3 lo.length c3,.slice a4 hi.length c4] 44)).cell? ⟨w.heap.size+1,j,none⟩:=fun j => hb.cell (p:=⟨w.heap.size+1,j,none⟩) (by simp)
 have hcl:∀ j,w1.cell? ⟨w.heap.size,j,none⟩=((w.alloc (.cells #[.slice a1 ss.length c1,.slice a2 oo.length c2,.int .i64 o,.int .i64 t,.int .i64 f,.int .i64 c'] 38)).alloc (.cells #[.slice a3 lo.length c3,.slice a4 hi.length c4] 44)).cell? ⟨w.heap.size,j,none⟩:=fun j => hb.cell (p:=⟨w.heap.size,j,none⟩) (by simp; omega)
 have d0:w1.cell? ⟨w.heap.size+1,0,none⟩=some (.slice a3 lo.length c3):=by rw [hc,World.cell?_alloc_at _ _ _ _ (by simp)]; rfl
 have d1:w1.cell? ⟨w.heap.size+1,1,none⟩=some (.slice a4 hi.length c4):=by rw [hc,World.cell?_alloc_at _ _ _ _ (by simp)]; rfl
 have D0:=Lib.hid d0
 have D1:=Lib.hid d1
 have LB:Hid (LayB w1 w.heap.size (.slice a1 ss.length c1) (.slice a2 oo.length c2) ⟨ss,oo,o,t,f,c'⟩):=by
  refine ⟨?_,?_,?_,?_,?_,?_⟩ <;> (rw [hcl,World.cell?_alloc_lt _ _ _ (by simp),World.cell?_alloc_at _ _ _ _ rfl]; rfl)
 clear hb C hc hcl
 go_wp2_with fail
 refine (CF.out _ HB.out).mono ?_
 rintro e w2 ⟨rfl,hb⟩
 have HB12:=Lib.hid hb
 have HB2:=Lib.hid (below_keep HB.out hb)
 have d0:=cell_later D0.out hb
 have d1:=cell_later D1.out hb
 clear hb CF
 go_wp2_with fail
 refine (CL.out _ HB2.out).mono ?_
 rintro e w3 ⟨rfl,hb⟩
 have HB13:=Lib.hid (below_keep HB12.out hb)
 have HB3:=Lib.hid (below_keep HB2.out hb)
 have d0:=cell_later D0.out HB13.out
 have d1:=cell_later D1.out HB13.out
 clear hb CL
 go_wp2_with fail
 refine (points_any (.slice a3 lo.length c3) (.slice a4 hi.length c4) _ ⟨_,_,_,rfl⟩ ⟨_,_,_,rfl⟩).mono ?_
 rintro e w4 ⟨rfl,rfl⟩
 have HB4:Hid (Below w3.heap.size w3 (w3.alloc (.cells #[.slice a3 lo.length c3,.slice a4 hi.length c4] 44))):=below_alloc _ _
 have CC:=Lib.hid (collect_any lo hi 99 #[.pointer (some ⟨w3.heap.size,0,none⟩)] (w3.alloc (.cells #[.slice a3 lo.length c3,.slice a4 hi.length c4] 44)) (by omega) (enters_of Tryz.func99 (by kernel_rfl) rfl)
  (points1_any lo hi (.slice a3 lo.length c3) (.slice a4 hi.length c4) _ w3.heap.size (by simp) (by rw [World.cell?_alloc_at _ _ _ _ rfl]; rfl) (by rw [World.cell?_alloc_at _ _ _ _ rfl]; rfl) ((HLO.out.later IntR.lasts HB3.out).later IntR.lasts HB4.out) ((HHI.out.later IntR.lasts HB3.out).later IntR.lasts HB4.out) HWD.out HFM.out.1.2 (by have:=HFM.out.2; omega) HMIN.out HHB.out))
 go_wp2_with fail
 refine CC.out.mono ?_
 rintro e w5 ⟨v,rfl,hrw,hb⟩
 have HRW:=Lib.hid hrw
 have hb35:=below_keep HB4.out hb
 have HB15:=Lib.hid (below_keep HB13.out hb35)
 have HB5:=Lib.hid (below_keep HB3.out hb35)
 have HN5:=Lib.hid (show w3.heap.size≤w5.heap.size from hb35.size)
 have d0:=cell_later D0.out HB15.out
 have d1:=cell_later D1.out HB15.out
 obtain ⟨l0,l1,l2,l3,l4,l5⟩:=LB.out
 have l0:=cell_later l0 HB15.out
 have l1:=cell_later l1 HB15.out
 have l2:=cell_later l2 HB15.out
 have l3:=cell_later l3 HB15.out
 have l4:=cell_later l4 HB15.out
 have l5:=cell_later l5 HB15.out
 obtain ⟨av,cv,hvs,-⟩:=hrw.rows.shape
 clear hrw hb hb35 CC
 subst hvs
 have HGL:Hid (∀ g,(Value.slice av (ptsL lo hi).length cv).ownBlock=some g→g<w5.heap.size∧w3.heap.size≤g):=by
  intro g hg
  obtain ⟨vals,ho,-⟩:=HRW.out.ex
  have:=ho.lt g hg
  simp at this
  omega
 go_wp2_with fail
 refine (CK.out _ HB5.out).mono ?_
 rintro e w6 ⟨gb,gf,rfl,k0,k1,k2,hb,kg1,kg2⟩
 have HB6:=Lib.hid (below_keep HB5.out hb)
 have CS:=Lib.hid (sortBy_any (keyF o t (bitsL 0 lo hi)) lo (.slice a3 lo.length c3) (ofV o (bitsL 0 lo hi) t) (.slice av (ptsL lo hi).length cv) gb gf w w6 (ptsL lo hi) HB6.out ?c1 ⟨k0,k2⟩ ?c2 HLO.out ?c3 (fun x hx => HPO.out x hx) (by have:=HFM.out.1.2; omega) HFM.out.2 (by rw [ptsL_length]; exact ptsN_pos HWD.out) (by rw [ptsL_length]; exact h20))
 case c1 => exact (HRW.out.base (by have:=HB3.out.size; simp; omega)).later hb
 case c2 =>
  intro g hg
  have:=(HGL.out g hg).1
  omega
 case c3 => exact HFN.out
 clear k0 k1 k2 hb kg1 kg2 CK l0 l1 l2 l3 l4 l5 d0 d1
 go_wp2_with fail
 refine CS.out.mono ?_
 rintro e w7 ⟨rfl,r,h1,h2,h3,h4⟩
 have H3:=Lib.hid h3
 have H4:=Lib.hid h4
 have HSS:=Lib.hid (HSB.out r h1 h2)
 clear h1 h2 h3 h4 CS
 go_wp2
 go_ret2
 exact ⟨_,r,rfl,HSS.out,H3.out,H4.out⟩
theorem seq_core (vs vo vlo vhi:Value) (l:LayT) (lo hi:List Int) (w:World) (hl:LayR w vs vo l) (hlo:Ints w vlo lo) (hhi:Ints w vhi hi) (hmin:∀ x ∈ lo,-9223372036854775808≤x) (h:orderedB l.order l.tile=true) (h2:formedB lo hi=true) (h3:limE lo hi=0) (ho:l.order ≠ 3) (h20:ptsN lo hi<20) :
  Calls Tryz.prog 19 #[layV vs vo l,.agg #[vlo,vhi]] w (RetRows (SortedBy l lo hi) 0 w):=by
 have hfm:=h2
 unfold formedB at hfm
 simp only [Bool.and_eq_true,decide_eq_true_eq] at hfm
 obtain ⟨hA,nB,hB,hB2⟩:=limE_zero h3
 refine seq_small vs vo vlo vhi l lo hi w hl hlo hhi hmin h h2 h3 (ofV_fn _ _ _ _ (by have:=hfm.1.2; omega) hfm.2 (bitsL_le (Nat.zero_le _) fun i a b ha hb => ?_) ho) h20
 have:=limA_get hA ha hb
 have:=limB_get hB ha hb
 omega
end Go.Proofs.YtdbnebhehiiakaaGreatDoor
