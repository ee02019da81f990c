/- Lemmas and contracts, each under its own condition: Contract: right. Contracts: Check, truth, sign, Value. Contracts: number, Number. Contracts: Fits, order, Order. Contract: Print. -/
import Derived.Test.YtdbnebhehiiakaaGreatDoorR1
import Derived.Test.YtdbnebhehiiakaaGreatDoorShlf
import Derived.Test.YtdbnebhehiiakaaGreatDoorV1
namespace Go.Proofs.YtdbnebhehiiakaaGreatDoor
open Go.RowKit
structure BoxAt (w:World) (g:Nat) (x:Va):Prop where
 kind:w.cell? ⟨g,0,none⟩=some (.int .i64 x.kind)
 num:w.cell? ⟨g,1,none⟩=some (.int .i64 x.num)
 den:w.cell? ⟨g,2,none⟩=some (.int .i64 x.den)
 str:w.cell? ⟨g,3,none⟩=some (.string ⟨x.str.toArray⟩)
theorem BoxAt.made (x:Va) (w:World) (t:TypeId):BoxAt (w.alloc (.cells #[.int .i64 x.kind,.int .i64 x.num,.int .i64 x.den,.string ⟨x.str.toArray⟩] t)) w.heap.size x:=by
 constructor <;> rw [World.cell?_alloc_at _ _ _ _ rfl] <;> rfl
theorem BoxAt.later {w w':World} {B g:Nat} {x:Va} (h:BoxAt w g x) (hb:Below B w w') (hg:g<B):BoxAt w' g x :=
 ⟨(hb.cell (p:=⟨g,0,none⟩) hg).trans h.kind,(hb.cell (p:=⟨g,1,none⟩) hg).trans h.num,(hb.cell (p:=⟨g,2,none⟩) hg).trans h.den,(hb.cell (p:=⟨g,3,none⟩) hg).trans h.str⟩
theorem BoxAt.past {w w1:World} (x:Va) {t:TypeId} (hb:Below (w.alloc (.cells #[.int .i64 x.kind,.int .i64 x.num,.int .i64 x.den,.string ⟨x.str.toArray⟩] t)).heap.size (w.alloc (.cells #[.int .i64 x.kind,.int .i64 x.num,.int .i64 x.den,.string ⟨x.str.toArray⟩] t)) w1) :
  BoxAt w1 w.heap.size x∧Below w.heap.size w w1 :=
 ⟨(BoxAt.made x w t).later hb (by simp),(below_alloc w _).trans (hb.mono (by simp))⟩
theorem right_0 (n d:Int) (s:List UInt8) (w:World) :
  Calls Tryz.prog 73 #[(Va.mk 0 n d s).v] w fun e w' => e=.returned (.bool (decide (d=0∧s=[]∧1≤n∧n≤255)))∧Below w.heap.size w w':=by
 have C:=Lib.hid (fun w1 => plain_any ⟨0,n,d,s⟩ w1)
 by_cases hp:d=0∧s=[]
 ·have H:=Lib.hid hp
  have hp':decide (d=0∧s=[])=true:=by simpa using hp
  clear hp
  go_enter Tryz.func73,Tryz.ntmps73
  go_wp2_with fail
  refine (C.out _).mono ?_
  simp only [hp']
  rintro e w1 ⟨rfl,hb⟩
  obtain ⟨⟨h1,h2,h3,h4⟩,HB⟩:=BoxAt.past ⟨0,n,d,s⟩ hb
  clear C
  go_wp2
  all_goals
   go_ret
   refine ⟨ret_bool ?_,HB⟩
   have:=H.out
   simp [this.1,this.2]
   try omega
 ·have hp':decide (d=0∧s=[])=false:=by simpa using hp
  have HF:Hid (decide (d=0∧s=[]∧1≤n∧n≤255)=false):=by
   show _=_
   rw [decide_eq_false_iff_not]; intro h; exact hp ⟨h.1,h.2.1⟩
  clear hp
  go_enter Tryz.func73,Tryz.ntmps73
  go_wp2_with fail
  refine (C.out _).mono ?_
  simp only [hp']
  rintro e w1 ⟨rfl,hb⟩
  obtain ⟨⟨h1,h2,h3,h4⟩,HB⟩:=BoxAt.past ⟨0,n,d,s⟩ hb
  clear C
  go_wp2
  go_ret
  exact ⟨ret_bool HF.out.symm,HB⟩
theorem right_1 (n d:Int) (s:List UInt8) (w:World) :
  Calls Tryz.prog 73 #[(Va.mk 1 n d s).v] w fun e w' => e=.returned (.bool (decide (d=0∧s=[]∧(n=0 ∨ n=1))))∧Below w.heap.size w w':=by
 have C:=Lib.hid (fun w1 => plain_any ⟨1,n,d,s⟩ w1)
 by_cases hp:d=0∧s=[]
 ·have H:=Lib.hid hp
  have hp':decide (d=0∧s=[])=true:=by simpa using hp
  clear hp
  go_enter Tryz.func73,Tryz.ntmps73
  go_wp2_with fail
  refine (C.out _).mono ?_
  simp only [hp']
  rintro e w1 ⟨rfl,hb⟩
  obtain ⟨⟨h1,h2,h3,h4⟩,HB⟩:=BoxAt.past ⟨1,n,d,s⟩ hb
  clear C
  go_wp2
  all_goals
   go_ret
   refine ⟨ret_bool ?_,HB⟩
   have:=H.out
   simp only [this.1,this.2,true_and]
   first
    | (rename_i h0; simp [h0]; done)
    | (rw [Bool.eq_iff_iff]; simp; done)
 ·have hp':decide (d=0∧s=[])=false:=by simpa using hp
  have HF:Hid (decide (d=0∧s=[]∧(n=0 ∨ n=1))=false):=by
   show _=_
   rw [decide_eq_false_iff_not]; intro h; exact hp ⟨h.1,h.2.1⟩
  clear hp
  go_enter Tryz.func73,Tryz.ntmps73
  go_wp2_with fail
  refine (C.out _).mono ?_
  simp only [hp']
  rintro e w1 ⟨rfl,hb⟩
  obtain ⟨⟨h1,h2,h3,h4⟩,HB⟩:=BoxAt.past ⟨1,n,d,s⟩ hb
  clear C
  go_wp2
  go_ret
  exact ⟨ret_bool HF.out.symm,HB⟩
theorem right_other (x:Va) (w:World) (h0:x.kind ≠ 0) (h1:x.kind ≠ 1) (h2:x.kind ≠ 2) (h3:x.kind ≠ 3) :
  Calls Tryz.prog 73 #[x.v] w fun e w' => e=.returned (.bool false)∧Below w.heap.size w w':=by
 have e0:(x.kind == 0)=false:=by simpa using h0
 have e1:(x.kind == 1)=false:=by simpa using h1
 have e2:(x.kind == 2)=false:=by simpa using h2
 have e3:(x.kind == 3)=false:=by simpa using h3
 clear h0 h1 h2 h3
 go_enter Tryz.func73,Tryz.ntmps73
 go_wp2
 go_ret
 exact ⟨rfl,below_alloc _ _⟩
def numOk (n d:Int):Prop:=1≤d∧d≤1099511627776 ∧ -1099511627776≤n∧n≤1099511627776
theorem right_2s (n d:Int) (s:List UInt8) (w:World) (hs:s ≠ []) :
  Calls Tryz.prog 73 #[(Va.mk 2 n d s).v] w fun e w' => e=.returned (.bool false)∧Below w.heap.size w w':=by
 go_enter Tryz.func73,Tryz.ntmps73
 go_wp2
 all_goals first
  | (exfalso; rename_i h; exact hs h)
  | skip
 go_ret
 exact ⟨rfl,below_alloc _ _⟩
theorem right_2n (n d:Int) (w:World) (h:¬ numOk n d) :
  Calls Tryz.prog 73 #[(Va.mk 2 n d []).v] w fun e w' => e=.returned (.bool false)∧Below w.heap.size w w':=by
 have H:=Lib.hid h
 clear h
 go_enter Tryz.func73,Tryz.ntmps73
 go_wp2_with fail
 all_goals first
  | (go_ret; exact ⟨rfl,below_alloc _ _⟩)
  | (exfalso; apply H.out; unfold numOk; omega)
  | skip
 trace_state
theorem right_2 (n:Int) (d:Nat) (w:World) (h:numOk n d) :
  Calls Tryz.prog 73 #[(Va.mk 2 n d []).v] w fun e w' => e=.returned (.bool (decide (Nat.gcd n.natAbs d=1)))∧Below w.heap.size w w':=by
 obtain ⟨k1,k2,k3,k4⟩:=h
 have hm:max n (-n)=((n.natAbs:Nat):Int):=by omega
 have C:=Lib.hid (fun w1 => igcd_any n.natAbs d (by unfold T40; omega) (by unfold T40; omega) w1)
 have HM:=Lib.hid hm
 clear hm
 go_enter Tryz.func73,Tryz.ntmps73
 go_wp2_with fail
 rw [HM.out]
 refine (C.out _).mono ?_
 rintro e w1 ⟨rfl,k,rfl⟩
 go_wp2
 go_ret
 refine ⟨ret_bool ?_,(below_alloc w _).trans ((below_drewN' _ _).mono (by simp))⟩
 rw [Bool.eq_iff_iff]; simp; omega
theorem odd_grows (w:World):PredGrows Tryz.prog 115 #[] oddR w:=fun W x _ _ =>
 (right1_any (x:Int) W).mono fun e w' ⟨he,hw⟩ => ⟨by rw [he]; rfl,by subst hw; exact Below.refl _ _⟩
theorem right_3n (n d:Int) (s:List UInt8) (w:World) (h:n ≠ 0 ∨ d ≠ 0 ∨ 16<s.length) :
  Calls Tryz.prog 73 #[(Va.mk 3 n d s).v] w fun e w' => e=.returned (.bool false)∧Below w.heap.size w w':=by
 have h':((n == 0)=false) ∨ ((n == 0)=true∧(d == 0)=false) ∨ ((n == 0)=true∧(d == 0)=true∧16<s.length):=by
  by_cases h1:n=0
  ·by_cases h2:d=0
   ·right; right; refine ⟨by simpa using h1,by simpa using h2,?_⟩
    omega
   ·right; left; exact ⟨by simpa using h1,by simpa using h2⟩
  ·left; simpa using h1
 clear h
 rcases h' with h1 | ⟨h1,h2⟩ | ⟨h1,h2,h3⟩
 all_goals
  go_enter Tryz.func73,Tryz.ntmps73
  go_wp2
  all_goals
   go_ret
   exact ⟨rfl,below_alloc _ _⟩
set_option maxRecDepth 100000 in
theorem right_3 (s:List UInt8) (w:World) (h:s.length≤16) :
  Calls Tryz.prog 73 #[(Va.mk 3 0 0 s).v] w fun e w' => e=.returned (.bool (s.all okB))∧Below w.heap.size w w':=by
 have C:=Lib.hid (fun w1 => Tryz.strings_IndexFunc_grows 115 #[] (fun _ _ => rfl) oddR ⟨s.toArray⟩ w1 (odd_grows w1))
 have HI:=Lib.hid (idx_okB ⟨s.toArray⟩)
 obtain ⟨I,hI⟩:∃ I,Lib.idxFunc oddR true ⟨s.toArray⟩=I:=⟨_,rfl⟩
 rw [hI] at C HI
 clear hI
 go_enter Tryz.func73,Tryz.ntmps73
 go_wp2_with fail
 refine (C.out _).mono ?_
 rintro e w1 ⟨rfl,hb⟩
 go_wp2
 go_ret
 refine ⟨ret_bool ?_,(below_alloc w _).trans (hb.mono (by simp))⟩
 rw [Bool.eq_iff_iff,decide_eq_true_eq]; exact HI.out
theorem right_any (x:Va) (w:World) :
  Calls Tryz.prog 73 #[x.v] w fun e w' => e=.returned (.bool (rightV x))∧Below w.heap.size w w':=by
 obtain ⟨k,n,d,s⟩:=x
 by_cases h0:k=0
 ·subst h0; exact right_0 n d s w
 by_cases h1:k=1
 ·subst h1; exact right_1 n d s w
 by_cases h2:k=2
 ·subst h2
  by_cases hs:s=[]
  ·subst hs
   by_cases hn:numOk n d
   ·obtain ⟨D,rfl⟩:∃ D:Nat,d=D:=⟨d.toNat,by have:=hn.1; omega⟩
    refine (right_2 n D w hn).mono fun e w' ⟨he,hb⟩ => ⟨?_,hb⟩
    rw [he]
    refine ret_bool ?_
    unfold numOk at hn
    show _=decide (_∧_)
    rw [Bool.eq_iff_iff,decide_eq_true_eq,decide_eq_true_eq,Int.natAbs_natCast]
    exact ⟨fun h => ⟨rfl,hn.1,hn.2.1,hn.2.2.1,hn.2.2.2,h⟩,fun h => h.2.2.2.2.2⟩
   ·refine (right_2n n d w hn).mono fun e w' ⟨he,hb⟩ => ⟨?_,hb⟩
    rw [he]
    refine ret_bool ?_
    show _=decide (_∧_)
    symm
    rw [decide_eq_false_iff_not]
    exact fun h => hn ⟨h.2.1,h.2.2.1,h.2.2.2.1,h.2.2.2.2.1⟩
  ·refine (right_2s n d s w hs).mono fun e w' ⟨he,hb⟩ => ⟨?_,hb⟩
   rw [he]
   refine ret_bool ?_
   show _=decide (_∧_)
   symm
   rw [decide_eq_false_iff_not]
   exact fun h => hs h.1
 by_cases h3:k=3
 ·subst h3
  by_cases hn:n ≠ 0 ∨ d ≠ 0 ∨ 16<s.length
  ·refine (right_3n n d s w hn).mono fun e w' ⟨he,hb⟩ => ⟨?_,hb⟩
   rw [he]
   refine ret_bool ?_
   show _=decide (_∧_)
   symm
   rw [decide_eq_false_iff_not]
   intro h
   rcases hn with h1 | h1 | h1
   ·exact h1 h.1
   ·exact h1 h.2.1
   ·exact absurd h.2.2.1 (Nat.not_le.2 h1)
  ·obtain ⟨rfl,rfl,hl⟩:n=0∧d=0∧s.length≤16:=by
    refine ⟨?_,?_,?_⟩
    ·exact Classical.byContradiction fun h => hn (.inl h)
    ·exact Classical.byContradiction fun h => hn (.inr (.inl h))
    ·exact Nat.le_of_not_lt fun h => hn (.inr (.inr h))
   refine (right_3 s w hl).mono fun e w' ⟨he,hb⟩ => ⟨?_,hb⟩
   rw [he]
   refine ret_bool ?_
   show _=decide (_∧_)
   rw [Bool.eq_iff_iff,decide_eq_true_eq]
   exact ⟨fun h => ⟨rfl,rfl,hl,h⟩,fun h => h.2.2.2⟩
 ·refine (right_other ⟨k,n,d,s⟩ w h0 h1 h2 h3).mono fun e w' ⟨he,hb⟩ => ⟨?_,hb⟩
  rw [he]
  refine ret_bool ?_
  simp [rightV,h0,h1,h2,h3]
theorem truth_any (b:Bool) (w:World) :
  Calls Tryz.prog 170 #[.bool b] w fun e w' => e=.returned (truthV b).v∧Below w.heap.size w w':=by
 cases b
 ·go_enter Tryz.func170,Tryz.ntmps170
  go_wp2
  go_returns
  exact ⟨rfl,(below_alloc _ _).trans ((below_alloc _ _).mono (by simp))⟩
 ·go_enter Tryz.func170,Tryz.ntmps170
  go_wp2
  go_returns
  exact ⟨rfl,(below_alloc _ _).trans ((below_alloc _ _).mono (by simp))⟩
structure ResV (w:World) (g:Nat):Prop where
 box:BoxAt w g zeroV
 f0:w.frozen? ⟨g,0,none⟩=false
 f1:w.frozen? ⟨g,1,none⟩=false
 f2:w.frozen? ⟨g,2,none⟩=false
 f3:w.frozen? ⟨g,3,none⟩=false
theorem ResV.made (w:World) (t:TypeId):ResV (w.alloc (.cells #[.int .i64 0,.int .i64 0,.int .i64 0,.string ⟨#[]⟩] t)) w.heap.size :=
 ⟨BoxAt.made zeroV w t,World.frozen?_alloc_at _ _ _ _ rfl,World.frozen?_alloc_at _ _ _ _ rfl,World.frozen?_alloc_at _ _ _ _ rfl,World.frozen?_alloc_at _ _ _ _ rfl⟩
theorem ResV.later {w w':World} {B g:Nat} (h:ResV w g) (hb:Below B w w') (hg:g<B):ResV w' g :=
 ⟨h.box.later hb hg,(hb.frozen (p:=⟨g,0,none⟩) hg).trans h.f0,(hb.frozen (p:=⟨g,1,none⟩) hg).trans h.f1,(hb.frozen (p:=⟨g,2,none⟩) hg).trans h.f2,(hb.frozen (p:=⟨g,3,none⟩) hg).trans h.f3⟩
theorem below_set4 {w w1:World} {a b c d:Value} (h:Below w.heap.size w w1) :
  Below w.heap.size w ((((w1.setCell ⟨w.heap.size,0,none⟩ a).setCell ⟨w.heap.size,1,none⟩ b).setCell ⟨w.heap.size,2,none⟩ c).setCell ⟨w.heap.size,3,none⟩ d) :=
 (((h.setCell (Nat.le_refl _) _).setCell (Nat.le_refl _) _).setCell (Nat.le_refl _) _).setCell (Nat.le_refl _) _
set_option maxHeartbeats 1600000 in
theorem value_fit {q:Rat} {v:Value} {w:World} (h:IsR w v q) (hn:qnum q≤T40) (hd:q.den≤T40) :
  Calls Tryz.prog 175 #[v] w fun e w' => e=.returned (ratV q).v∧Below w.heap.size w w':=by
 have HV:=Lib.hid (fun (w1:World) (hb:Below w.heap.size w w1) => valid_any (h.later hb))
 obtain ⟨g,vn,vd,rfl,h⟩:=h
 have HN:=Lib.hid (fun (w1:World) (hb:Below w.heap.size w w1) => short_small (h.isNum.later hb) hn)
 have HD:=Lib.hid (fun (w1:World) (hb:Below w.heap.size w w1) => short_small (h.isDen.later hb) hd)
 have HC:=Lib.hid (fun (w1:World) (hb:Below w.heap.size w w1) => h.later hb)
 have HN2:=Lib.hid hn
 clear h hn hd
 go_enter Tryz.func175,Tryz.ntmps175
 go_wp2_with fail
 refine (HV.out _ (below_alloc _ _)).mono ?_
 rintro e w1 ⟨rfl,rfl⟩
 obtain ⟨c0,c1,c2,_,_⟩:=HC.out _ (below_alloc w (.cells #[.int .i64 0,.int .i64 0,.int .i64 0,.string ⟨#[]⟩] 59))
 go_wp2_with fail
 refine (HN.out _ (below_alloc _ _)).mono ?_
 rintro e w2 ⟨rfl,hb2⟩
 have hB2:=Lib.hid ((below_alloc w _).trans (hb2.mono (by simp)))
 obtain ⟨c0,c1,c2,_,_⟩:=HC.out _ hB2.out
 go_wp2_with fail
 refine (HD.out _ hB2.out).mono ?_
 rintro e w3 ⟨rfl,hb3⟩
 have hB3:=Lib.hid (hB2.out.trans (hb3.mono hB2.out.size))
 obtain ⟨c0,c1,c2,_,_⟩:=HC.out _ hB3.out
 obtain ⟨⟨r0,r1,r2,r3⟩,f0,f1,f2,f3⟩:=(ResV.made w 59).later hb2 (by simp) |>.later hb3 (by have:=hb2.size; simp at this; omega)
 clear HV HN HD HC hb2 hb3
 rcases hq:qneg q with _ | _
 ·have HQ:Hid (q.num=(qnum q:Int)):=by
   show _=_
   rw [q_num q,hq]; rfl
  rw [hq] at c0
  go_wp2
  refine bodyPost_ret (by simp [results,Tryz.results175,go_sem,r0,r1,r2,r3]; try rfl) rfl ?_
  refine ⟨?_,below_set4 hB3.out⟩
  show _=Ending.returned (.agg #[_,.int .i64 q.num,_,_])
  rw [HQ.out]
 ·have HQ:Hid (q.num = -(qnum q:Int)):=by
   show _=_
   rw [q_num q,hq]; rfl
  have hlim:(qnum q:Int)≤1099511627776:=by have:=HN2.out; unfold T40 at this; omega
  rw [hq] at c0
  go_wp2
  refine bodyPost_ret (by simp [results,Tryz.results175,go_sem,r0,r1,r2,r3]; try rfl) rfl ?_
  refine ⟨?_,below_set4 hB3.out⟩
  show _=Ending.returned (.agg #[_,.int .i64 q.num,_,_])
  rw [HQ.out]
set_option maxHeartbeats 1600000 in
theorem value_over {q:Rat} {v:Value} {w:World} (h:IsR w v q) (hf:¬ (qnum q≤T40∧q.den≤T40)) :
  Calls Tryz.prog 175 #[v] w fun e w' => e=.returned (missV 2).v∧Below w.heap.size w w':=by
 have HV:=Lib.hid (fun (w1:World) (hb:Below w.heap.size w w1) => valid_any (h.later hb))
 obtain ⟨g,vn,vd,rfl,h⟩:=h
 have HN:=Lib.hid (fun (w1:World) (hb:Below w.heap.size w w1) => short_any (h.isNum.later hb))
 have HD:=Lib.hid (fun (w1:World) (hb:Below w.heap.size w w1) => short_any (h.isDen.later hb))
 have HC:=Lib.hid (fun (w1:World) (hb:Below w.heap.size w w1) => h.later hb)
 have HM:=Lib.hid (fun w1 => missing_any 2 w1)
 obtain ⟨N,hN⟩:∃ N:Int,(if qnum q≤T40 then (qnum q:Int) else 0)=N:=⟨_,rfl⟩
 obtain ⟨D,hD⟩:∃ D:Int,(if q.den≤T40 then (q.den:Int) else 0)=D:=⟨_,rfl⟩
 obtain ⟨a,ha⟩:∃ a,decide (qnum q≤T40)=a:=⟨_,rfl⟩
 obtain ⟨b,hb⟩:∃ b,decide (q.den≤T40)=b:=⟨_,rfl⟩
 have hab:a=false ∨ (a=true∧b=false):=by
  cases a with
  | false => exact .inl rfl
  | true =>
   cases b with
   | false => exact .inr ⟨rfl,rfl⟩
   | true => exact absurd ⟨by simpa using ha,by simpa using hb⟩ hf
 rw [hN,ha] at HN
 rw [hD,hb] at HD
 clear h hf hN hD ha hb
 rcases hab with rfl | ⟨rfl,rfl⟩
 all_goals
  go_enter Tryz.func175,Tryz.ntmps175
  go_wp2_with fail
  refine (HV.out _ (below_alloc _ _)).mono ?_
  rintro e w1 ⟨rfl,rfl⟩
  obtain ⟨c0,c1,c2,_,_⟩:=HC.out _ (below_alloc w (.cells #[.int .i64 0,.int .i64 0,.int .i64 0,.string ⟨#[]⟩] 59))
  go_wp2_with fail
  refine (HN.out _ (below_alloc _ _)).mono ?_
  rintro e w2 ⟨rfl,hb2⟩
  have hB2:=Lib.hid ((below_alloc w _).trans (hb2.mono (by simp)))
  obtain ⟨c0,c1,c2,_,_⟩:=HC.out _ hB2.out
  go_wp2_with fail
  refine (HD.out _ hB2.out).mono ?_
  rintro e w3 ⟨rfl,hb3⟩
  have hB3:=Lib.hid (hB2.out.trans (hb3.mono hB2.out.size))
  have hlt:w.heap.size<w3.heap.size:=by have:=hb3.size; have:=hb2.size; simp at *; omega
  have HRES:=Lib.hid ((ResV.made w 59).later hb2 (by simp) |>.later hb3 (by have:=hb2.size; simp at this; omega))
  clear HV HN HD HC hb2 hb3
  go_wp2_with (go_at_call 173; refine (HM.out _).mono ?_; rintro e w4 ⟨rfl,hb4⟩; obtain ⟨⟨r0,r1,r2,r3⟩,f0,f1,f2,f3⟩:=HRES.out.later hb4 hlt; have HB:=Lib.hid (hB3.out.trans (hb4.mono hB3.out.size)); clear HM HRES)
  refine bodyPost_ret (by simp [results,Tryz.results175,go_sem,r0,r1,r2,r3]; try rfl) rfl ?_
  exact ⟨rfl,below_set4 HB.out⟩
theorem number_core (q:Rat) (N D:Int) (w:World) (hE:decide (N<0)=qneg q)
  (C1:∀ w1,Calls Tryz.prog 74 #[.int .i64 N] w1 (RetN B32 (qnum q) w1)) (C2:∀ w1,Calls Tryz.prog 74 #[.int .i64 D] w1 (RetN B32 q.den w1)) :
  Calls Tryz.prog 76 #[.agg #[.int .i64 2,.int .i64 N,.int .i64 D,.string ⟨#[]⟩]] w (RetR q w):=by
 obtain ⟨W,hW⟩:∃ W,W=w.alloc (.cells #[.int .i64 2,.int .i64 N,.int .i64 D,.string ⟨#[]⟩] 59):=⟨_,rfl⟩
 have hB:Below w.heap.size w W:=by rw [hW]; exact below_alloc _ _
 have hlt:w.heap.size<W.heap.size:=by rw [hW]; simp
 have hBox:BoxAt W w.heap.size ⟨2,N,D,[]⟩:=by rw [hW]; exact BoxAt.made ⟨2,N,D,[]⟩ w _
 have K:=Lib.hid (fun (w1:World) (hb:Below W.heap.size W w1) => (show w1.cell? ⟨w.heap.size,1,none⟩=some (.int .i64 N)∧w1.cell? ⟨w.heap.size,2,none⟩=some (.int .i64 D)∧Below W.heap.size W w1 from ⟨(hBox.later hb hlt).num,(hBox.later hb hlt).den,hb⟩))
 have HB:=Lib.hid hB
 have k0:=(K.out W (Below.refl _ _)).1
 have k1:=(K.out W (Below.refl _ _)).2.1
 have hE:=Lib.hid hE
 have C1:=Lib.hid C1
 have C2:=Lib.hid C2
 clear hBox hB
 rename_i hE' C1' C2'
 clear hE' C1' C2'
 have hbd:Below W.heap.size W W.drew:=(Below.refl _ _).drew
 go_enter Tryz.func76,Tryz.ntmps76
 go_wp2_with fail
 rw [← hW]
 clear hW
 go_region_held3 (fun w' => w'.cell? ⟨w.heap.size,1,none⟩=some (.int .i64 N)∧w'.cell? ⟨w.heap.size,2,none⟩=some (.int .i64 D)∧Below W.heap.size W w')
  (first | exact K.out _ (by assumption) | exact K.out _ (Below.drew (Below.refl _ _)) | exact K.out _ (hB2.alloc hB2.size _))
  (first
   | (go_at_call_of 74 (Value.int .i64 N); refine (C1.out _).mono ?_; rintro e w2 ⟨v1,rfl,hv1,hb1⟩; have hB1:=below_keep hbd hb1; obtain ⟨a1,n1,p1,hs1,-⟩:=hv1.shape (by decide); subst hs1)
   | (go_at_call_of 74 (Value.int .i64 D); refine (C2.out _).mono ?_; rintro e w3 ⟨v2,rfl,hv2,hb2⟩; have hB2:=below_keep hB1 hb2; obtain ⟨a2,n2,p2,hs2,-⟩:=hv2.shape (by decide); subst hs2))
 go_wp2
 go_ret
 refine ⟨_,rfl,IsR.made hE.out ((hv1.later hb2)) hv2,HB.out.trans ((hB2.alloc hB2.size _).mono HB.out.size)⟩
theorem number_any (q:Rat) (hf:FitQ q) (w:World) :
  Calls Tryz.prog 76 #[(ratV q).v] w (RetR q w):=by
 have hlim : -9223372036854775808≤q.num∧q.num≤9223372036854775807∧(q.den:Int)≤9223372036854775807:=by
  have:=hf.num; have:=hf.den; unfold qnum T40 at *; omega
 exact number_core q q.num q.den w rfl (fun w1 => size_any q.num w1 hlim.1 hlim.2.1) (fun w1 => size_any (q.den:Int) w1 (by omega) hlim.2.2)
theorem FitQ.bd {q:Rat} (h:FitQ q):Bd 41 q:=⟨Nat.lt_of_le_of_lt h.num (by decide),Nat.lt_of_le_of_lt h.den (by decide)⟩
theorem fits_bad (x:Va) (t:Int) (w:World) (h:rightV x=false ∨ t<1 ∨ 4<t) :
  Calls Tryz.prog 109 #[x.v,.int .i64 t] w fun e w' => e=.returned (.bool false)∧Below w.heap.size w w':=by
 have C:=Lib.hid (fun w1 => right_any x w1)
 have h':rightV x=false ∨ (rightV x=true∧decide (t<1)=true) ∨ (rightV x=true∧decide (t<1)=false∧decide (4<t)=true):=by
  cases hr:rightV x with
  | false => exact .inl rfl
  | true =>
   by_cases h1:t<1
   ·exact .inr (.inl ⟨rfl,by simpa using h1⟩)
   ·refine .inr (.inr ⟨rfl,by simpa using h1,?_⟩)
    rcases h with h | h | h
    ·rw [hr] at h; cases h
    ·exact absurd h h1
    ·simpa using h
 clear h
 rcases h' with hr | ⟨hr,h1⟩ | ⟨hr,h1,h2⟩
 all_goals
  rw [hr] at C
  clear hr
  go_enter Tryz.func109,Tryz.ntmps109
  go_wp2_with fail
  refine (C.out _).mono ?_
  rintro e w1 ⟨rfl,hb⟩
  obtain ⟨⟨c1,c2,c3,c4⟩,HB⟩:=BoxAt.past x hb
  clear C hb
  go_wp2
  go_ret
  exact ⟨rfl,HB⟩
theorem fits_good (x:Va) (t:Int) (w:World) (h:rightV x=true) (h1:1≤t) (h2:t≤4) :
  Calls Tryz.prog 109 #[x.v,.int .i64 t] w fun e w' => e=.returned (.bool (fitsV x t))∧Below w.heap.size w w':=by
 have C:=Lib.hid (fun w1 => right_any x w1)
 have hf:fitsV x t=(if x.kind=1 then decide (t=1) else if x.kind=2 then decide (t=3 ∨ (t=2∧x.den=1)) else if x.kind=3 then decide (t=4) else true):=by
  unfold fitsV
  have:decide (1≤t∧t≤4)=true:=by simp [h1,h2]
  rw [h,this]; rfl
 rw [hf]
 have e1:decide (t<1)=false:=by rw [decide_eq_false_iff_not]; omega
 have e2:decide (4<t)=false:=by rw [decide_eq_false_iff_not]; omega
 have hk:x.kind=0 ∨ x.kind=1 ∨ x.kind=2 ∨ x.kind=3:=by
  rcases right_cases h with ⟨r,h1,h2,rfl⟩ | ⟨b,rfl⟩ | ⟨q,hq,rfl⟩ | ⟨s,h1,h2,rfl⟩
  ·exact .inl rfl
  ·exact .inr (.inl rfl)
  ·exact .inr (.inr (.inl rfl))
  ·exact .inr (.inr (.inr rfl))
 rw [h] at C
 obtain ⟨k,n,d,s⟩:=x
 simp only at hk ⊢
 have HT:Hid (1≤t∧t≤4):=⟨h1,h2⟩
 clear h hf h1 h2
 rcases hk with rfl | rfl | rfl | rfl
 ·go_enter Tryz.func109,Tryz.ntmps109
  go_wp2_with fail
  refine (C.out _).mono ?_
  rintro e w1 ⟨rfl,hb⟩
  obtain ⟨⟨c1,c2,c3,c4⟩,HB⟩:=BoxAt.past ⟨_,n,d,s⟩ hb
  clear C hb
  go_wp2
  all_goals
   go_ret
   exact ⟨ret_bool (by simp),HB⟩
 ·go_enter Tryz.func109,Tryz.ntmps109
  go_wp2_with fail
  refine (C.out _).mono ?_
  rintro e w1 ⟨rfl,hb⟩
  obtain ⟨⟨c1,c2,c3,c4⟩,HB⟩:=BoxAt.past ⟨_,n,d,s⟩ hb
  clear C hb
  go_wp2
  all_goals
   go_ret
   exact ⟨ret_bool (by rw [Bool.eq_iff_iff]; simp),HB⟩
 ·go_enter Tryz.func109,Tryz.ntmps109
  go_wp2_with fail
  refine (C.out _).mono ?_
  rintro e w1 ⟨rfl,hb⟩
  obtain ⟨⟨c1,c2,c3,c4⟩,HB⟩:=BoxAt.past ⟨_,n,d,s⟩ hb
  clear C hb
  go_wp2
  all_goals
   go_ret
   refine ⟨ret_bool ?_,HB⟩
   first
    | rfl
    | (rw [Bool.eq_iff_iff]; simp; done)
    | (simp_all; done)
 ·go_enter Tryz.func109,Tryz.ntmps109
  go_wp2_with fail
  refine (C.out _).mono ?_
  rintro e w1 ⟨rfl,hb⟩
  obtain ⟨⟨c1,c2,c3,c4⟩,HB⟩:=BoxAt.past ⟨_,n,d,s⟩ hb
  clear C hb
  go_wp2
  all_goals
   go_ret
   exact ⟨ret_bool (by rw [Bool.eq_iff_iff]; simp),HB⟩
theorem fits_any (x:Va) (t:Int) (w:World) :
  Calls Tryz.prog 109 #[x.v,.int .i64 t] w fun e w' => e=.returned (.bool (fitsV x t))∧Below w.heap.size w w':=by
 by_cases h:rightV x=true∧1≤t∧t≤4
 ·exact fits_good x t w h.1 h.2.1 h.2.2
 ·have hf:fitsV x t=false:=by
   unfold fitsV
   by_cases h1:rightV x=true
   ·have:decide (1≤t∧t≤4)=false:=by rw [decide_eq_false_iff_not]; exact fun h2 => h ⟨h1,h2⟩
    rw [this]; simp
   ·have:rightV x=false:=by simpa using h1
    rw [this]; rfl
  rw [hf]
  refine fits_bad x t w ?_
  by_cases h1:rightV x=true
  ·right
   by_cases h2:t<1
   ·exact .inl h2
   ·right
    refine Int.not_le.1 fun h3 => h ⟨h1,by omega,h3⟩
  ·left; simpa using h1
theorem ret_str {l m:ByteArray} {k:Int} (h:l.data.toList=m.data.toList):Ending.returned (.tuple #[.string l,.int .i64 k])=.returned (.tuple #[.string m,.int .i64 k]):=by rw [bytes_eq h]
theorem print_bad (x:Va) (h:rightV x=false) (w:World) :
  Calls Tryz.prog 34 #[x.v] w fun e w' => e=.returned (.tuple #[str [],.int .i64 2])∧Below w.heap.size w w':=by
 have C:=Lib.hid (fun w1 => right_any x w1)
 rw [h] at C
 clear h
 go_enter Tryz.func34,Tryz.ntmps34
 go_wp2_with fail
 refine (C.out _).mono ?_
 rintro e w1 ⟨rfl,hb⟩
 obtain ⟨⟨c1,c2,c3,c4⟩,HB⟩:=BoxAt.past x hb
 clear C hb
 go_wp2
 go_ret2
 exact ⟨rfl,HB⟩
theorem print_0 (r:Int) (h1:1≤r) (h2:r≤255) (w:World) :
  Calls Tryz.prog 34 #[(missV r).v] w fun e w' => e=.returned (.tuple #[str (63 :: dec r.natAbs),.int .i64 0])∧Below w.heap.size w w':=by
 have C:=Lib.hid (fun w1 => right_any (missV r) w1)
 rw [right_miss h1 h2] at C
 have C2:=Lib.hid (fun w1 => size_any r w1 (by omega) (by omega))
 have SM:Sm r.natAbs:=Sm.i64 (n:=r) (by omega) (by omega)
 have C3:=Lib.hid (fun (w1:World) (v:Value) (hv:IsN B32 w1 v r.natAbs) => text_any hv SM)
 have L1:=SM.dec_len
 clear h1 h2 SM
 go_enter Tryz.func34,Tryz.ntmps34
 go_wp2_with fail
 refine (C.out _).mono ?_
 rintro e w1 ⟨rfl,hb⟩
 obtain ⟨⟨c1,c2,c3,c4⟩,HB⟩:=BoxAt.past (missV r) hb
 clear C hb
 go_wp2_with fail
 refine (C2.out _).mono ?_
 rintro e w2 ⟨v,rfl,hv,hb2⟩
 have HB2:=below_keep HB hb2
 obtain ⟨a1,n1,p1,hs1,-⟩:=hv.shape (by decide)
 subst hs1
 have C4:=Lib.hid (C3.out _ _ hv)
 clear C2 C3 hv
 go_wp2_with fail
 refine C4.out.mono ?_
 rintro e w3 ⟨rfl,hb3⟩
 have HB3:=below_keep HB2 hb3
 clear C4
 go_wp2
 go_ret2
 exact ⟨ret_str (by simp),HB3⟩
theorem print_1 (b:Bool) (w:World) :
  Calls Tryz.prog 34 #[(truthV b).v] w fun e w' => e=.returned (.tuple #[str (printV (truthV b)),.int .i64 0])∧Below w.heap.size w w':=by
 have C:=Lib.hid (fun w1 => right_any (truthV b) w1)
 rw [right_bool] at C
 cases b
 ·go_enter Tryz.func34,Tryz.ntmps34
  go_wp2_with fail
  refine (C.out _).mono ?_
  rintro e w1 ⟨rfl,hb⟩
  obtain ⟨⟨c1,c2,c3,c4⟩,HB⟩:=BoxAt.past ⟨1,0,0,[]⟩ hb
  clear C hb
  go_wp2
  go_ret2
  exact ⟨rfl,HB⟩
 ·go_enter Tryz.func34,Tryz.ntmps34
  go_wp2_with fail
  refine (C.out _).mono ?_
  rintro e w1 ⟨rfl,hb⟩
  obtain ⟨⟨c1,c2,c3,c4⟩,HB⟩:=BoxAt.past ⟨1,1,0,[]⟩ hb
  clear C hb
  go_wp2
  go_ret2
  exact ⟨rfl,HB⟩
theorem print_2 (q:Rat) (hq:FitQ q) (w:World) :
  Calls Tryz.prog 34 #[(ratV q).v] w fun e w' => e=.returned (.tuple #[str (ratS q),.int .i64 0])∧Below w.heap.size w w':=by
 have C:=Lib.hid (fun w1 => right_any (ratV q) w1)
 rw [right_rat hq] at C
 have C2:=Lib.hid (fun w1 => number_any q hq w1)
 have C3:=Lib.hid (fun (w1:World) (v:Value) (hv:IsR w1 v q) => ratText_any hv (hq.bd.smR (by decide)))
 clear hq
 go_enter Tryz.func34,Tryz.ntmps34
 go_wp2_with fail
 refine (C.out _).mono ?_
 rintro e w1 ⟨rfl,hb⟩
 obtain ⟨⟨c1,c2,c3,c4⟩,HB⟩:=BoxAt.past (ratV q) hb
 clear C hb
 go_wp2_with fail
 refine (C2.out _).mono ?_
 rintro e w2 ⟨v,rfl,hv,hb2⟩
 have HB2:=below_keep HB hb2
 have C4:=Lib.hid (C3.out _ _ hv)
 obtain ⟨g,vn,vd,hvs,-⟩:=hv
 subst hvs
 clear C2 C3
 go_wp2_with fail
 refine C4.out.mono ?_
 rintro e w3 ⟨rfl,hb3⟩
 have HB3:=below_keep HB2 hb3
 clear C4
 go_wp2
 go_ret2
 exact ⟨rfl,HB3⟩
theorem print_3 (s:List UInt8) (h1:s.length≤16) (h2:s.all okB=true) (w:World) (hm:Ml w) :
  Calls Tryz.prog 34 #[(textV s).v] w fun e w' => e=.returned (.tuple #[str (39 :: dbl s ++ [39]),.int .i64 0])∧Below w.heap.size w w':=by
 have C:=Lib.hid (fun w1 => right_any (textV s) w1)
 rw [right_text h1 h2] at C
 have C2:=Lib.hid (fun (w1:World) (m:Int) (hm:w1.cell? ⟨1,0,none⟩=some (.int .i64 m)) => Tryz.strings_ReplaceAll ⟨s.toArray⟩ ⟨#[39]⟩ ⟨#[39,39]⟩ m w1 (by simp [ByteArray.size]; omega) hm (by decide) (by
  have:=Lib.countB_le ⟨#[39]⟩ (by decide) s.length ⟨s.toArray⟩ (by simp [ByteArray.size])
  have e:(ByteArray.mk #[39,39]).size=2:=rfl
  have e2:(ByteArray.mk s.toArray).size=s.length:=by simp [ByteArray.size]
  rw [e,e2]; rw [e2] at this; omega))
 have HD:Hid (Lib.replaceAll s [39] [39,39]=dbl s):=ra_dbl s
 have L:=dbl_len s
 have HMl:=Lib.hid (fun w1 (hb:Below w.heap.size w w1) => hm.later hb)
 clear h2 hm
 go_enter Tryz.func34,Tryz.ntmps34
 go_wp2_with fail
 refine (C.out _).mono ?_
 rintro e w1 ⟨rfl,hb⟩
 obtain ⟨⟨c1,c2,c3,c4⟩,HB⟩:=BoxAt.past (textV s) hb
 clear C hb
 go_wp2_with fail
 obtain ⟨m,hm⟩:=HMl.out w1 HB
 have C3:=C2.out w1 m hm
 simp only [HD.out] at C3
 have C3:=Lib.hid C3
 rename_i C3'
 clear C3' C2 hm HMl
 refine C3.out.mono ?_
 rintro e w2 ⟨rfl,hb2⟩
 have HB2:=below_keep HB hb2
 clear C3 hb2
 go_wp2
 go_ret2
 exact ⟨ret_str (by simp),HB2⟩
def printE (x:Va):Value:=.tuple #[str (if rightV x=true then printV x else []),.int .i64 (if rightV x=true then 0 else 2)]
theorem print_any (x:Va) (w:World) (hm:Ml w) :
  Calls Tryz.prog 34 #[x.v] w fun e w' => e=.returned (printE x)∧Below w.heap.size w w':=by
 unfold printE
 by_cases hx:rightV x=true
 ·simp only [if_pos hx]
  rcases right_cases hx with ⟨r,h1,h2,rfl⟩ | ⟨b,rfl⟩ | ⟨q,hq,rfl⟩ | ⟨s,h1,h2,rfl⟩
  ·exact print_0 r h1 h2 w
  ·exact print_1 b w
  ·rw [print_rat]; exact print_2 q hq w
  ·exact print_3 s h1 h2 w hm
 ·simp only [if_neg hx]
  exact print_bad x (by simpa using hx) w
end Go.Proofs.YtdbnebhehiiakaaGreatDoor
