/- Lemmas and contracts, each under its own condition: Contract: mul. Contract: small (division by one digit). Contract: shifted. -/
import Derived.Test.YtdbnebhehiiakaaGreatDoorN1
namespace Go.Proofs.YtdbnebhehiiakaaGreatDoor
open Go.RowKit
def acc (c d e o:Nat):Nat:=c+(d * e+o)
theorem acc_lt {c d e o:Nat} (hc:c<B32) (hd:d<B32) (he:e<B32) (ho:o<B32):acc c d e o<18446744073709551616:=by
 have h:d * e≤4294967295 * 4294967295:=Nat.mul_le_mul (by unfold B32 at hd; omega) (by unfold B32 at he; omega)
 unfold acc; unfold B32 at *; omega
theorem prod_le {d e:Nat} (hd:d<B32) (he:e<B32):(d:Int) * (e:Int)≤18446744065119617025∧0≤(d:Int) * (e:Int):=by
 have h:d * e≤4294967295 * 4294967295:=Nat.mul_le_mul (by unfold B32 at hd; omega) (by unfold B32 at he; omega)
 rw [← Int.natCast_mul]
 omega
theorem acc_div (c d e o:Nat):Value.int .u64 (((c:Int)+((d:Int) * (e:Int)+(o:Int))) / 4294967296)=.int .u64 ((acc c d e o / 4294967296:Nat):Int):=by simp [acc]
theorem acc_mod (c d e o:Nat):Value.int .u32 (((c:Int)+((d:Int) * (e:Int)+(o:Int))) % 4294967296)=.int .u32 ((acc c d e o % 4294967296:Nat):Int):=by simp [acc]
structure MulInv (w:World) (N i n d P:Nat) (E:Nat→Nat) (k c:Nat) (O:Nat→Nat) (wr:World):Prop where
 arr:Arr wr w.heap.size N O
 below:Below w.heap.size w wr
 dig:∀ j,j<N→O j<B32
 zero:∀ j,i+n≤j→j<N→O j=0
 carry:c<B32
 eq:fval B32 O N+B32 ^ (i+k) * c=P+B32 ^ i * (d * fval B32 E k)
theorem MulInv.step {w wr:World} {N i n d P k c:Nat} {E O:Nat→Nat} (h:MulInv w N i n d P E k c O wr) (hk:k<n) (hN:i+n≤N) (hd:d<B32) (he:E k<B32) {z:Value}
  (hz:z=.int .u32 ((acc c d (E k) (O (i+k)) % 4294967296:Nat):Int)) :
  MulInv w N i n d P E (k+1) (acc c d (E k) (O (i+k)) / 4294967296) (putD O (i+k) (acc c d (E k) (O (i+k)) % 4294967296)) (wr.setCell ⟨w.heap.size,i+k,none⟩ z):=by
 have ho:=h.dig (i+k) (by omega)
 have hlt:=acc_lt h.carry hd he ho
 refine ⟨h.arr.set _ _ (by omega) hz,h.below.setCell (Nat.le_refl _) _,fun j hj => ?_,fun j h1 h2 => ?_,by unfold B32; omega,?_⟩
 ·by_cases e:j=i+k
  ·subst e; rw [putD_same]; unfold B32; omega
  ·rw [putD_other _ _ _ _ e]; exact h.dig j hj
 ·rw [putD_other _ _ _ _ (by omega)]; exact h.zero j h1 h2
 ·have h1:=fval_set (B:=B32) O N (i+k) (acc c d (E k) (O (i+k)) % 4294967296) (by omega)
  have h2:=h.eq
  rw [fval_succ]
  have h3:acc c d (E k) (O (i+k)) % 4294967296+B32 * (acc c d (E k) (O (i+k)) / 4294967296)=c+(d * E k+O (i+k)):=by
   unfold B32; rw [Nat.mod_add_div]; rfl
  generalize acc c d (E k) (O (i+k)) % 4294967296=r at *
  generalize acc c d (E k) (O (i+k)) / 4294967296=q at *
  have h4:B32 ^ (i+k) * (r+B32 * q)=B32 ^ (i+k) * (c+(d * E k+O (i+k))):=by rw [h3]
  have e1:B32 ^ (i+(k+1)) * q=B32 ^ (i+k) * (B32 * q):=by rw [← Nat.add_assoc,Nat.pow_succ,Nat.mul_assoc]
  have e2:B32 ^ i * (d * (fval B32 E k+B32 ^ k * E k))=B32 ^ i * (d * fval B32 E k)+B32 ^ (i+k) * (d * E k):=by
   rw [Nat.mul_add,Nat.mul_add,Nat.pow_add]
   congr 1
   rw [Nat.mul_assoc]
   congr 1
   rw [← Nat.mul_assoc,Nat.mul_comm d,Nat.mul_assoc]
  rw [e1,e2]
  simp only [Nat.mul_add] at h4
  change fval B32 (putD O (i+k) r) N+B32 ^ (i+k) * O (i+k)=fval B32 O N+B32 ^ (i+k) * r at h1
  omega
theorem MulInv.row {w wr:World} {N i n d X c:Nat} {E O:Nat→Nat} (h:MulInv w N i n d (X * fval B32 E n) E n c O wr) (hN:i+n<N) {z:Value}
  (hz:z=.int .u32 ((c % 4294967296:Nat):Int)) (D:Nat→Nat) (hX:fval B32 D i=X) (hd:D i=d) (d':Nat) :
  MulInv w N (i+1) n d' (fval B32 D (i+1) * fval B32 E n) E 0 0 (putD O (i+n) c) (wr.setCell ⟨w.heap.size,i+n,none⟩ z):=by
 have hc:=h.carry
 have ec:c % 4294967296=c:=Nat.mod_eq_of_lt hc
 rw [ec] at hz
 refine ⟨h.arr.set _ _ hN hz,h.below.setCell (Nat.le_refl _) _,fun j hj => ?_,fun j h1 h2 => ?_,by decide,?_⟩
 ·by_cases e:j=i+n
  ·subst e; rw [putD_same]; exact hc
  ·rw [putD_other _ _ _ _ e]; exact h.dig j hj
 ·rw [putD_other _ _ _ _ (by omega)]; exact h.zero j (by omega) h2
 ·have h1:=fval_set (B:=B32) O N (i+n) c hN
  have h2:=h.eq
  change fval B32 (putD O (i+n) c) N+B32 ^ (i+n) * O (i+n)=fval B32 O N+B32 ^ (i+n) * c at h1
  rw [h.zero (i+n) (Nat.le_refl _) hN] at h1
  rw [fval_succ,hX,hd,Nat.add_mul,fval_zero]
  have e1:B32 ^ i * d * fval B32 E n=B32 ^ i * (d * fval B32 E n):=Nat.mul_assoc _ _ _
  rw [Nat.mul_zero,Nat.add_zero] at h1
  rw [Nat.mul_zero,Nat.mul_zero,Nat.mul_zero,Nat.add_zero,Nat.add_zero,h1,h2,e1]
theorem MulInv.start (w:World) (N n d:Nat) (E:Nat→Nat) (t:TypeId):MulInv w N 0 n d (0 * fval B32 E n) E 0 0 (fun _ => 0) (w.alloc (.cells (madeCells #[.int .u32 0] N) t)) :=
 ⟨Arr.made _ _ _,below_alloc _ _,fun _ _ => by decide,fun _ _ _ => rfl,by decide,by simp [fval_const_zero,fval_zero]⟩
set_option maxHeartbeats 1600000 in
theorem mul_core (a b:Option Addr) (g g' m n cm cn:Nat) (D E:Nat→Nat) (w:World) (hm:m≤1000000000) (hn:n≤1000000000)
  (ha:0<m→a=some ⟨g,0,none⟩) (hb:0<n→b=some ⟨g',0,none⟩) (hD:∀ i,i<m→D i<B32) (hE:∀ i,i<n→E i<B32)
  (c1:Cells w g m D) (c2:Cells w g' n E) :
  Calls Tryz.prog 198 #[.slice a m cm,.slice b n cn] w (RetN B32 (fval B32 D m * fval B32 E n) w):=by
 have hmk:=run_makeD (t:=128) Tryz.underlying128 ((m:Int)+(n:Int)) (m+n) (by omega) (by omega)
 go_enter Tryz.func198,Tryz.ntmps198
 go_wp2
 go_loopw [19] (fun iv wr => ∃ (i:Nat) (O:Nat→Nat),i≤m∧iv=.int .i64 (i:Nat)∧MulInv w (m+n) i n (D i) (fval B32 D i * fval B32 E n) E 0 0 O wr) (fun iv _ => m - (intOf iv).toNat)
 case atStart => exact ⟨0,_,by omega,rfl,MulInv.start _ _ _ _ _ _⟩
 case round =>
  obtain ⟨i,O,hi,rfl,hI⟩:=hrel
  by_cases hlt:i<m
  ·have hdx:=hD i hlt
   have hx:wr.cell? ⟨g,i,none⟩=some (.int .u32 (D i)):=c1.later hI.below (Nat.le_refl _) i hlt
   have hA:=ha (by omega)
   subst hA
   go_wp2
   obtain ⟨wo,hwo⟩:∃ wo:World,wo=wr:=⟨_,rfl⟩
   clear hD ha
   go_loopw [8,26] (fun cv kv wr => ∃ (k c:Nat) (O:Nat→Nat),k≤n∧kv=.int .i64 (k:Nat)∧cv=.int .u64 (c:Nat)∧MulInv w (m+n) i n (D i) (fval B32 D i * fval B32 E n) E k c O wr) (fun _ kv _ => n - (intOf kv).toNat)
   case atStart => exact ⟨0,0,O,by omega,rfl,rfl,hI⟩
   case round =>
    obtain ⟨k,c,O,hk,rfl,rfl,hJ⟩:=hrel
    by_cases hkn:k<n
    ·have hdy:=hE k hkn
     have hy:wr.cell? ⟨g',k,none⟩=some (.int .u32 (E k)):=c2.later hJ.below (Nat.le_refl _) k hkn
     have hB:=hb (by omega)
     subst hB
     have ho:=hJ.arr.cell (i+k) (by omega)
     have hf:=hJ.arr.free (i+k)
     have hc1:=hJ.carry
     have hdo:=hJ.dig (i+k) (by omega)
     have hst:Hid (∀ z:Value,z=.int .u32 ((acc c (D i) (E k) (O (i+k)) % 4294967296:Nat):Int)→MulInv w (m+n) i n (D i) (fval B32 D i * fval B32 E n) E (k+1) (acc c (D i) (E k) (O (i+k)) / 4294967296) (putD O (i+k) (acc c (D i) (E k) (O (i+k)) % 4294967296)) (wr.setCell ⟨w.heap.size,i+k,none⟩ z)) :=
      fun z hz => hJ.step hkn (by omega) hdx hdy hz
     have hp:=prod_le hdx hdy
     obtain ⟨hp1,hp2⟩:=hp
     unfold B32 at hdx hdy hc1 hdo
     clear hE c1 c2 hI hb hJ hx hwo
     go_wp2
     go_roundw
     case rel => exact ⟨k+1,_,_,by omega,by go_num,acc_div _ _ _ _,hst.out _ (acc_mod _ _ _ _)⟩
     case measure => simp [intOf]; omega
    ·obtain rfl:k=n:=by omega
     have ho:=hJ.arr.cell (i+k) (by omega)
     have hf:=hJ.arr.free (i+k)
     have hc1:=hJ.carry
     unfold B32 at hc1
     have hst:Hid (∀ z:Value,z=.int .u32 ((c % 4294967296:Nat):Int)→MulInv w (m+k) (i+1) k (D (i+1)) (fval B32 D (i+1) * fval B32 E k) E 0 0 (putD O (i+k) c) (wr.setCell ⟨w.heap.size,i+k,none⟩ z)) :=
      fun z hz => hJ.row (by omega) hz D rfl rfl _
     clear hE c1 c2 hI hb hJ hx hwo hdx
     go_wp2
     go_roundw
     case rel => exact ⟨i+1,_,by omega,by go_num,hst.out _ (by go_num)⟩
     case measure => simp [intOf]; omega
  ·obtain rfl:i=m:=by omega
   have hval:Hid (fval B32 O (i+n)=fval B32 D i * fval B32 E n):=by
    have h1:=hI.eq
    rw [fval_zero,Nat.mul_zero,Nat.mul_zero,Nat.mul_zero,Nat.add_zero,Nat.add_zero] at h1
    exact h1
   have harr:=hI.arr
   have hbel:=hI.below
   have hdig:=hI.dig
   clear hD hE c1 c2 hI ha hb
   go_wp2_with fail
   refine (trim_any (n:=i+n) (D:=O) (.inr ⟨_,_,rfl,by omega,by omega,harr.cell⟩)).mono ?_
   rintro e w' h
   obtain ⟨v,rfl,hv,rfl⟩:=h.num hdig
   rw [hval.out] at hv
   clear harr hdig
   go_wp2
   go_ret
   exact ⟨_,rfl,hv,hbel⟩
theorem mul_any {X Y:Nat} {x y:Value} {w:World} (hx:IsN B32 w x X) (hy:IsN B32 w y Y) (sx:Sm X) (sy:Sm Y) :
  Calls Tryz.prog 198 #[x,y] w (RetN B32 (X * Y) w):=by
 obtain ⟨m,D,r1,s1⟩:=hx
 obtain ⟨n,E,r2,s2⟩:=hy
 have l1:=sx.len r1
 have l2:=sy.len r2
 obtain ⟨a,g,cm,rfl,h1,_,_,h2⟩:=s1.shape
 obtain ⟨b,g',cn,rfl,h3,_,_,h4⟩:=s2.shape
 rw [← r1.eq,← r2.eq]
 exact mul_core a b g g' m n cm cn D E w (by omega) (by omega) h1 h3 r1.dig r2.dig h2 h4
def hi (B:Nat) (D:Nat→Nat) (k m:Nat):Nat:=fval B (fun i => D (k+i)) (m - k)
theorem hi_zero (B:Nat) (D:Nat→Nat) (m:Nat):hi B D 0 m=fval B D m:=by
 unfold hi; simp
theorem hi_top (B:Nat) (D:Nat→Nat) (m:Nat):hi B D m m=0:=by
 unfold hi; rw [Nat.sub_self]; rfl
theorem hi_step (B:Nat) (D:Nat→Nat) {k m:Nat} (h:k<m):hi B D k m=D k+B * hi B D (k+1) m:=by
 unfold hi
 rw [show m - k=(m - (k+1))+1 from by omega,fval_first]
 congr 2
 exact fval_congr _ (fun i _ => by rw [Nat.add_right_comm,Nat.add_assoc])
theorem hi_congr {B:Nat} {D E:Nat→Nat} {k m:Nat} (h:∀ i,k≤i→i<m→D i=E i):hi B D k m=hi B E k m :=
 fval_congr _ (fun i hi => h (k+i) (by omega) (by omega))
theorem small_step {B d r x R X:Nat} (h:X=R * d+r):x+B * X=((r * B+x) / d+B * R) * d+(r * B+x) % d:=by
 subst h
 have h1:=Nat.div_add_mod (r * B+x) d
 rw [Nat.add_mul,Nat.mul_comm ((r * B+x) / d) d,Nat.mul_add B,Nat.mul_comm B r,Nat.mul_assoc]
 omega
theorem or_join {r x:Nat} (hr:r<B32) (hx:x<B32):bits .or .u64 ((r:Int) * 4294967296) (x:Int)=(r:Int) * 4294967296+(x:Int):=by
 unfold B32 at hr hx
 have e:(r:Int) * 4294967296=((r * 4294967296:Nat):Int):=by simp
 rw [e,u64_or_nat _ _ (by omega) (by omega),nat_join 32 _ _ (by omega) (by omega)]
 simp
theorem quo_lt {R x d:Nat} (h:R<d) (hx:x<B32):(R * B32+x) / d<B32:=by
 rw [Nat.div_lt_iff_lt_mul (by omega)]
 have:(R+1) * B32≤d * B32:=Nat.mul_le_mul_right _ h
 rw [Nat.add_mul] at this
 rw [Nat.mul_comm B32 d]
 omega
theorem quo_val {R x d:Nat} (h:R<d) (hx:x<B32):Value.int .u32 (((R:Int) * 4294967296+(x:Int)) / (d:Int) % 4294967296)=.int .u32 (((R * B32+x) / d:Nat):Int):=by
 have h1:=quo_lt h hx
 have e:((R:Int) * 4294967296+(x:Int)) / (d:Int)=(((R * B32+x) / d:Nat):Int):=by simp [B32]
 rw [e]
 congr 1
 generalize (R * B32+x) / d=q at *
 unfold B32 at h1
 omega
theorem rem_val (R x d:Nat):Value.int .u64 (((R:Int) * 4294967296+(x:Int)) % (d:Int))=.int .u64 (((R * B32+x) % d:Nat):Int):=by simp [B32]
structure SmallInv (w:World) (m d:Nat) (D:Nat→Nat) (k R:Nat) (O:Nat→Nat) (wr:World):Prop where
 arr:Arr wr w.heap.size m O
 below:Below w.heap.size w wr
 dig:∀ i,k≤i→i<m→O i<B32
 rest:R<d
 eq:hi B32 D k m=hi B32 O k m * d+R
theorem SmallInv.step {w wr:World} {m d k R:Nat} {D O:Nat→Nat} (h:SmallInv w m d D (k+1) R O wr) (hk:k<m) (hx:D k<B32) {z:Value}
  (hz:z=.int .u32 (((R * B32+D k) / d:Nat):Int)) :
  SmallInv w m d D k ((R * B32+D k) % d) (putD O k ((R * B32+D k) / d)) (wr.setCell ⟨w.heap.size,k,none⟩ z):=by
 have hr:=h.rest
 have hd:0<d:=by omega
 have hlt:=quo_lt hr hx
 refine ⟨h.arr.set _ _ hk hz,h.below.setCell (Nat.le_refl _) _,fun i h1 h2 => ?_,Nat.mod_lt _ hd,?_⟩
 ·by_cases e:i=k
  ·subst e; rw [putD_same]; exact hlt
  ·rw [putD_other _ _ _ _ e]; exact h.dig i (by omega) h2
 ·rw [hi_step _ _ hk,hi_step _ _ hk,putD_same,hi_congr (D:=putD O k _) (E:=O) (fun i h1 h2 => putD_other _ _ _ _ (by omega))]
  exact small_step h.eq
theorem ret_vint {k:IntKind} {v:Value} {a b:Int} (h:a=b):Ending.returned (.tuple #[v,.int k a])=.returned (.tuple #[v,.int k b]):=by rw [h]
def RetNR (B X R:Nat) (w:World) (e:Ending) (w':World):Prop:=∃ v,e=.returned (.tuple #[v,.int .u32 R])∧IsN B w' v X∧Below w.heap.size w w'
set_option maxHeartbeats 800000 in
theorem small_core (a:Option Addr) (g m cm d:Nat) (D:Nat→Nat) (w:World) (hm:m≤1000000000) (hd:0<d) (hd2:d<B32)
  (ha:0<m→a=some ⟨g,0,none⟩) (hD:∀ i,i<m→D i<B32) (c1:Cells w g m D) :
  Calls Tryz.prog 118 #[.slice a m cm,.int .u32 d] w (RetNR B32 (fval B32 D m / d) (fval B32 D m % d) w):=by
 have hmk:=run_makeD (t:=128) Tryz.underlying128 (m:Int) m (by omega) (by omega)
 go_enter Tryz.func118,Tryz.ntmps118
 go_wp2
 go_loopw [7,8] (fun rv iv wr => ∃ (k R:Nat) (O:Nat→Nat),k≤m∧iv=.int .i64 ((k:Int) - 1)∧rv=.int .u64 (R:Nat)∧SmallInv w m d D k R O wr) (fun _ iv _ => (intOf iv+1).toNat)
 case atStart => exact ⟨m,0,_,by omega,rfl,rfl,Arr.made _ _ _,below_alloc _ _,fun i h1 h2 => by omega,hd,by rw [hi_top,hi_top]; simp⟩
 case round =>
  obtain ⟨k,R,O,hk,rfl,rfl,hI⟩:=hrel
  by_cases hlt:0<k
  ·obtain ⟨j,rfl⟩:∃ j,k=j+1:=⟨k - 1,by omega⟩
   have e1:(((j+1:Nat):Int) - 1)=(j:Int):=by omega
   rw [e1]
   have hdx:=hD j (by omega)
   have hx:wr.cell? ⟨g,j,none⟩=some (.int .u32 (D j)):=c1.later hI.below (Nat.le_refl _) j (by omega)
   have ho:=hI.arr.cell j (by omega)
   have hf:=hI.arr.free j
   have hr:=hI.rest
   have hor:=or_join (r:=R) (x:=D j) (by omega) hdx
   have hst:Hid (∀ z:Value,z=.int .u32 (((R * B32+D j) / d:Nat):Int)→SmallInv w m d D j ((R * B32+D j) % d) (putD O j ((R * B32+D j) / d)) (wr.setCell ⟨w.heap.size,j,none⟩ z)) :=
    fun z hz => hI.step (by omega) hdx hz
   have HQ:=Lib.hid (quo_val hr hdx)
   have hA:=ha (by omega)
   subst hA
   unfold B32 at hdx hd2
   clear hD c1 hI ha e1
   go_wp2
   go_roundw
   case rel => exact ⟨j,_,_,by omega,rfl,rem_val _ _ _,hst.out _ HQ.out⟩
   case measure => simp [intOf]
  ·obtain rfl:k=0:=by omega
   have hval:Hid (fval B32 O m=fval B32 D m / d∧R=fval B32 D m % d):=by
    have h1:=hI.eq
    have h2:=hI.rest
    rw [hi_zero,hi_zero] at h1
    rw [h1]
    exact ⟨by rw [Nat.mul_comm,Nat.mul_add_div hd,Nat.div_eq_of_lt h2]; rfl,by rw [Nat.mul_comm,Nat.mul_add_mod,Nat.mod_eq_of_lt h2]⟩
   have harr:=hI.arr
   have hbel:=hI.below
   have hdig:=hI.dig
   have hr:=hI.rest
   unfold B32 at hd2
   clear hD c1 hI ha
   go_wp2_with fail
   refine (trim_any (n:=m) (D:=O) (.inr ⟨_,_,rfl,by omega,by omega,harr.cell⟩)).mono ?_
   rintro e w' h
   obtain ⟨v,rfl,hv,rfl⟩:=h.num (B:=B32) (fun i hi => hdig i (Nat.zero_le _) hi)
   rw [hval.out.1] at hv
   clear harr hdig
   go_wp2
   go_ret2
   exact ⟨_,ret_vint (by rw [← hval.out.2]),hv,hbel⟩
theorem small_any {X d:Nat} {x:Value} {w:World} (hx:IsN B32 w x X) (sx:Sm X) (hd:0<d) (hd2:d<B32) :
  Calls Tryz.prog 118 #[x,.int .u32 d] w (RetNR B32 (X / d) (X % d) w):=by
 obtain ⟨m,D,r1,s1⟩:=hx
 have l1:=sx.len r1
 obtain ⟨a,g,cm,rfl,h1,_,_,h2⟩:=s1.shape
 rw [← r1.eq]
 exact small_core a g m cm d D w (by omega) hd hd2 h1 r1.dig h2
theorem shift_pow {s:Nat} (hs:s<32):2 ^ s * 2 ^ (32 - s)=B32:=by
 rw [← Nat.pow_add,show s+(32 - s)=32 from by omega]
def shLo (d s:Nat):Nat:=d * 2 ^ s % B32
def shHi (d s:Nat):Nat:=d * 2 ^ s / B32
theorem sh_eq (d s:Nat):shLo d s+B32 * shHi d s=d * 2 ^ s:=Nat.mod_add_div _ _
theorem shLo_lt (d s:Nat):shLo d s<B32:=Nat.mod_lt _ (by decide)
theorem shHi_lt {d s:Nat} (hd:d<B32):shHi d s<2 ^ s:=by
 unfold shHi
 rw [Nat.div_lt_iff_lt_mul (by decide),Nat.mul_comm]
 exact (Nat.mul_lt_mul_left (Nat.pow_pos (by decide))).2 hd
theorem shLo_mod {s:Nat} (d:Nat) (hs:s<32):shLo d s % 2 ^ s=0:=by
 unfold shLo
 rw [← shift_pow hs,Nat.mod_mul_right_mod]
 exact Nat.mul_mod_left _ _
theorem shLo_add_lt {s o:Nat} (d:Nat) (hs:s<32) (ho:o<2 ^ s):o+shLo d s<B32:=by
 obtain ⟨q,hq⟩:=Nat.dvd_of_mod_eq_zero (shLo_mod d hs)
 have h1:=shLo_lt d s
 rw [hq,← shift_pow hs] at *
 have h2:q<2 ^ (32 - s):=Nat.lt_of_mul_lt_mul_left h1
 have h3:2 ^ s * (q+1)≤2 ^ s * 2 ^ (32 - s):=Nat.mul_le_mul_left _ h2
 rw [Nat.mul_add] at h3
 omega
theorem shLo_or {s o:Nat} (d:Nat) (hs:s<32) (ho:o<2 ^ s) (hoB:o<B32):bits .or .u32 (o:Int) (shLo d s:Int)=((o+shLo d s:Nat):Int):=by
 rw [u32_or_nat _ _ hoB (shLo_lt d s),Nat.or_comm,nat_join s _ _ (shLo_mod d hs) ho,Nat.add_comm]
theorem wrap_u64' (n:Int):IntKind.u64.wrap n=n % 18446744073709551616:=by simp [IntKind.wrap,IntKind.bits,IntKind.signed]
theorem sh_wide {d s:Nat} (hd:d<B32) (hs:s<32):IntKind.u64.wrap (IntKind.u64.wrap (d:Int) * 2 ^ s)=((d * 2 ^ s:Nat):Int):=by
 have h1:2 ^ s<2 ^ 32:=Nat.pow_lt_pow_right (by decide) hs
 have h2:d * 2 ^ s<4294967296 * 4294967296:=Nat.mul_lt_mul'' hd h1
 have e:((d * 2 ^ s:Nat):Int)=(d:Int) * 2 ^ s:=by simp
 rw [wrap_u64',wrap_u64']
 have e2:(d:Int) % 18446744073709551616=d:=by unfold B32 at hd; omega
 rw [e2,← e]
 omega
theorem sh_val1 {d s o:Nat} (hd:d<B32) (hs:s<32) (ho:o<2 ^ s):Value.int .u32 (bits .or .u32 (o:Int) (IntKind.u64.wrap (IntKind.u64.wrap (d:Int) * 2 ^ s) % 4294967296))=.int .u32 ((o+shLo d s:Nat):Int):=by
 have h1:2 ^ s<2 ^ 32:=Nat.pow_lt_pow_right (by decide) hs
 have hoB:o<B32:=by unfold B32; omega
 rw [sh_wide hd hs,← shLo_or d hs ho hoB]
 rfl
theorem sh_val2 {d s:Nat} (hd:d<B32) (hs:s<32):Value.int .u32 (IntKind.u64.wrap (IntKind.u64.wrap (d:Int) * 2 ^ s) / 4294967296 % 4294967296)=.int .u32 ((shHi d s:Nat):Int):=by
 have h1:2 ^ s<2 ^ 32:=Nat.pow_lt_pow_right (by decide) hs
 have h2:=shHi_lt (s:=s) hd
 rw [sh_wide hd hs]
 congr 1
 have e:((d * 2 ^ s:Nat):Int) / 4294967296=(shHi d s:Int):=by unfold shHi B32; omega
 rw [e]
 omega
structure ShInv (w:World) (m s:Nat) (D:Nat→Nat) (k:Nat) (O:Nat→Nat) (wr:World):Prop where
 arr:Arr wr w.heap.size (m+1) O
 below:Below w.heap.size w wr
 dig:∀ i,i<k→O i<B32
 top:O k<2 ^ s
 zero:∀ i,k<i→i<m+1→O i=0
 eq:fval B32 O (k+1)=fval B32 D k * 2 ^ s
theorem ShInv.step {w wr:World} {m s k:Nat} {D O:Nat→Nat} (h:ShInv w m s D k O wr) (hk:k<m) (hs:s<32) (hx:D k<B32) {z1 z2:Value}
  (h1:z1=.int .u32 ((O k+shLo (D k) s:Nat):Int)) (h2:z2=.int .u32 ((shHi (D k) s:Nat):Int)) :
  ShInv w m s D (k+1) (putD (putD O k (O k+shLo (D k) s)) (k+1) (shHi (D k) s)) ((wr.setCell ⟨w.heap.size,k,none⟩ z1).setCell ⟨w.heap.size,k+1,none⟩ z2):=by
 refine ⟨(h.arr.set _ _ (by omega) h1).set _ _ (by omega) h2,(h.below.setCell (Nat.le_refl _) _).setCell (Nat.le_refl _) _,fun i hi => ?_,?_,fun i h3 h4 => ?_,?_⟩
 ·rw [putD_other _ _ _ _ (by omega)]
  by_cases e:i=k
  ·subst e; rw [putD_same]; exact shLo_add_lt _ hs h.top
  ·rw [putD_other _ _ _ _ e]; exact h.dig i (by omega)
 ·rw [putD_same]; exact shHi_lt hx
 ·rw [putD_other _ _ _ _ (by omega),putD_other _ _ _ _ (by omega)]; exact h.zero i (by omega) h4
 ·have e:=h.eq
  rw [fval_succ] at e
  rw [fval_succ,fval_succ,putD_same,putD_other _ _ _ _ (by omega),putD_same,fval_succ,
   fval_congr (E:=O) k (fun i hi => by rw [putD_other _ _ _ _ (by omega),putD_other _ _ _ _ (by omega)])]
  rw [Nat.add_mul,← e,Nat.mul_assoc,← sh_eq (D k) s,Nat.mul_add,Nat.mul_add,Nat.pow_succ,Nat.mul_assoc]
  simp only [Nat.add_assoc]
def RetSh (m s X:Nat) (w:World) (e:Ending) (w':World):Prop :=
 ∃ O,e=.returned (.slice (some ⟨w.heap.size,0,none⟩) (m+1) (m+1))∧Arr w' w.heap.size (m+1) O∧(∀ i,i<m+1→O i<B32)∧fval B32 O (m+1)=X * 2 ^ s∧Below w.heap.size w w'
set_option maxHeartbeats 800000 in
theorem shifted_core (a:Option Addr) (g m cm s:Nat) (D:Nat→Nat) (w:World) (hm:m≤1000000000) (hs:s<32)
  (ha:0<m→a=some ⟨g,0,none⟩) (hD:∀ i,i<m→D i<B32) (c1:Cells w g m D) :
  Calls Tryz.prog 232 #[.slice a m cm,.int .i64 s] w (RetSh m s (fval B32 D m) w):=by
 have hmk:=run_makeD (t:=128) Tryz.underlying128 ((m:Int)+1) (m+1) (by omega) (by omega)
 go_enter Tryz.func232,Tryz.ntmps232
 go_wp2
 go_loopw [15] (fun iv wr => ∃ (k:Nat) (O:Nat→Nat),k≤m∧iv=.int .i64 (k:Nat)∧ShInv w m s D k O wr) (fun iv _ => m - (intOf iv).toNat)
 case atStart => exact ⟨0,_,by omega,rfl,Arr.made _ _ _,below_alloc _ _,fun i hi => by omega,Nat.pow_pos (by decide),fun _ _ _ => rfl,by simp [fval]⟩
 case round =>
  obtain ⟨k,O,hk,rfl,hI⟩:=hrel
  by_cases hlt:k<m
  ·have hdx:=hD k hlt
   have hx:wr.cell? ⟨g,k,none⟩=some (.int .u32 (D k)):=c1.later hI.below (Nat.le_refl _) k hlt
   have ho:=hI.arr.cell k (by omega)
   have hf:=hI.arr.free k
   have ho2:=hI.arr.cell (k+1) (by omega)
   have hf2:=hI.arr.free (k+1)
   have hA:=ha (by omega)
   subst hA
   clear hD c1 ha
   go_wp2
   go_roundw
   case rel => exact ⟨k+1,_,by omega,by go_num,hI.step hlt hs hdx (sh_val1 hdx hs hI.top) (sh_val2 hdx hs)⟩
   case measure => simp [intOf]; omega
  ·obtain rfl:k=m:=by omega
   clear hD c1 ha
   go_wp2
   go_ret
   refine ⟨O,rfl,hI.arr,fun i hi => ?_,hI.eq,hI.below⟩
   by_cases e:i=k
   ·subst e
    have:=hI.top
    have h1:2 ^ s<2 ^ 32:=Nat.pow_lt_pow_right (by decide) hs
    unfold B32; omega
   ·exact hI.dig i (by omega)
end Go.Proofs.YtdbnebhehiiakaaGreatDoor
