/- Lemmas and contracts, each under its own condition: What a slice of 32-bit digits, and a number, look like in memory; small facts that the walks use. Contracts of the smallest functions on natural numbers: trim, natOf, one, cmp, and bits.Add32, bits.Sub32. Contracts: cmp, bits.Add32, bits.Sub32, add, sub. Contracts: bits.Add32, bits.Sub32; the arithmetic of their results. Contract: add. Contract: sub. -/
import Derived.WalkKit
import Derived.Lib.Hide
import Derived.Deep.QuietTactic
import Derived.BigQuiet
import Derived.WalkSpells
import Derived.WalkLawsBesides
import Derived.Test.YtdbnebhehiiakaaGreatDoorProg
import Derived.Test.YtdbnebhehiiakaaGreatDoorN0
namespace Go.Proofs.YtdbnebhehiiakaaGreatDoor
open Go.RowKit
abbrev B32:Nat:=4294967296
def lenOf:Value→Nat
 | .slice _ n _ => n
 | _ => 0
theorem ret_slice {a:Option Addr} {n m cap:Nat} (h:n=m):Ending.returned (.slice a n cap)=.returned (.slice a m cap):=by rw [h]
theorem ret_int {k:IntKind} {a b:Int} (h:a=b):Ending.returned (.int k a)=.returned (.int k b):=by rw [h]
theorem ret_bool {a b:Bool} (h:a=b):Ending.returned (.bool a)=.returned (.bool b):=by rw [h]
def Cells (w:World) (g n:Nat) (D:Nat→Nat):Prop:=∀ i,i<n→w.cell? ⟨g,i,none⟩=some (.int .u32 (D i))
def Sl (w:World) (v:Value) (n:Nat) (D:Nat→Nat):Prop :=
 (v=.slice none 0 0∧n=0) ∨ ∃ g cap,v=.slice (some ⟨g,0,none⟩) n cap∧n≤cap∧cap≤9223372036854775807∧Cells w g n D
def IsN (B:Nat) (w:World) (v:Value) (X:Nat):Prop:=∃ n D,Rep B D n X∧Sl w v n D
def LIM:Nat:=1000000
theorem LIM_eq:LIM=1000000:=rfl
structure Sm (X:Nat):Prop where
 lt:X<B32 ^ LIM
theorem Sm.mono {X Y:Nat} (h:Sm Y) (hXY:X≤Y):Sm X:=⟨Nat.lt_of_le_of_lt hXY h.lt⟩
theorem Sm.of_bits {X k:Nat} (h:X<2 ^ k) (hk:k≤32000000):Sm X:=by
 have e:∀ n:Nat,B32 ^ n=2 ^ (32 * n):=fun n => by rw [Nat.pow_mul]
 have:=LIM_eq
 refine ⟨?_⟩
 rw [e]
 exact Nat.lt_of_lt_of_le h (Nat.pow_le_pow_right (by omega) (by omega))
theorem Sm.len {X n:Nat} {D:Nat→Nat} (h:Sm X) (hr:Rep B32 D n X):n≤1000000:=by
 have h2:n≤LIM:=hr.len_le (by decide) h.lt
 have:=LIM_eq
 omega
theorem Cells.later {w w':World} {B g n:Nat} {D:Nat→Nat} (h:Cells w g n D) (hb:Below B w w') (hB:w.heap.size≤B):Cells w' g n D:=fun i hi => by
 rw [hb.cell (p:=⟨g,i,none⟩) (by have:=World.block_lt_of_cell? w _ (h i hi); exact Nat.lt_of_lt_of_le this hB)]
 exact h i hi
theorem Sl.later {w w':World} {B n:Nat} {v:Value} {D:Nat→Nat} (h:Sl w v n D) (hb:Below B w w') (hB:w.heap.size≤B):Sl w' v n D:=by
 rcases h with h | ⟨g,cap,h1,h2,h3,h4⟩
 ·exact .inl h
 ·exact .inr ⟨g,cap,h1,h2,h3,h4.later hb hB⟩
theorem IsN.later {B:Nat} {w w':World} {v:Value} {X:Nat} (h:IsN B w v X) (hb:Below w.heap.size w w'):IsN B w' v X :=
 let ⟨n,D,h1,h2⟩:=h; ⟨n,D,h1,h2.later hb (Nat.le_refl _)⟩
def RetN (B X:Nat) (w:World) (e:Ending) (w':World):Prop:=∃ v,e=.returned v∧IsN B w' v X∧Below w.heap.size w w'
structure Arr (w:World) (g n:Nat) (D:Nat→Nat):Prop where
 cell:Cells w g n D
 free:∀ i,w.frozen? ⟨g,i,none⟩=false
def putD (D:Nat→Nat) (i v:Nat):Nat→Nat:=fun k => if k=i then v else D k
theorem putD_same (D:Nat→Nat) (i v:Nat):putD D i v i=v:=by simp [putD]
theorem putD_other (D:Nat→Nat) (i v k:Nat) (h:k ≠ i):putD D i v k=D k:=by simp [putD,h]
theorem Arr.set {w:World} {g n:Nat} {D:Nat→Nat} (h:Arr w g n D) (i v:Nat) (hi:i<n) {z:Value} (hz:z=.int .u32 (v:Int)) :
  Arr (w.setCell ⟨g,i,none⟩ z) g n (putD D i v):=by
 subst hz
 refine ⟨fun k hk => ?_,fun k => ?_⟩
 ·by_cases e:k=i
  ·subst e
   rw [putD_same]
   exact World.cell?_setCell_same w ⟨g,k,none⟩ _ (h.cell k hk)
  ·rw [putD_other _ _ _ _ e,World.cell?_setCell_other w ⟨g,i,none⟩ ⟨g,k,none⟩ _ (fun h' => e (by injection h' with _ h2; exact h2.symm))]
   exact h.cell k hk
 ·rw [World.frozen?_setCell]; exact h.free k
theorem Arr.later {w w':World} {B g n:Nat} {D:Nat→Nat} (h:Arr w g n D) (hb:Below B w w') (hg:g<B):Arr w' g n D :=
 ⟨fun i hi => (hb.cell (p:=⟨g,i,none⟩) hg).trans (h.cell i hi),fun i => (hb.frozen (p:=⟨g,i,none⟩) hg).trans (h.free i)⟩
theorem Arr.drew {w:World} {g n:Nat} {D:Nat→Nat} (h:Arr w g n D):Arr w.drew g n D:=⟨h.cell,h.free⟩
theorem madeCells_get (n i:Nat) (hi:i<n):(madeCells #[.int .u32 0] n)[i]? = some (.int .u32 0):=by
 simp [madeCells,hi,Nat.mod_one]
theorem Arr.made (w:World) (n:Nat) (e:TypeId):Arr (w.alloc (.cells (madeCells #[.int .u32 0] n) e)) w.heap.size n (fun _ => 0) :=
 ⟨fun i hi => by rw [World.cell?_alloc_at _ _ _ _ rfl]; simpa using madeCells_get n i hi,fun i => World.frozen?_alloc_at _ _ _ _ rfl⟩
theorem below_keep {w W w1:World} (h0:Below w.heap.size w W) (h:Below W.heap.size W w1):Below w.heap.size w w1:=h0.trans (h.mono h0.size)
theorem IsN.nil (B:Nat) (w:World):IsN B w (.slice none 0 0) 0:=⟨0,fun _ => 0,Rep.zero _ _,.inl ⟨rfl,rfl⟩⟩
theorem below_drewN' (w:World) (k:Nat):Below w.heap.size w (w.drewN k):=⟨rfl,rfl,rfl,Nat.le_refl _,fun _ _ => rfl⟩
theorem below_alloc (w:World) (o:Obj):Below w.heap.size w (w.alloc o):=(Below.refl _ _).alloc (Nat.le_refl _) _
theorem info135:(Tryz.prog.info? 169).map (fun i => (i.zero,i.size,i.bytes))=some (some (.int .u32 0),1,4):=by kernel_rfl
theorem run_makeD {t:TypeId} (ht:Tryz.prog.underlying t=some (.slice 169)) (K:Int) (n:Nat) (hK:K=n) (hn:n≤1000000000000) (w:World) :
  (Instr.makeSlice t (.int .i64 K) (.int .i64 K)).run Tryz.prog w=.ok (.slice (some ⟨w.heap.size,0,none⟩) n n) (w.alloc (.cells (madeCells #[.int .u32 0] n) 169)):=by
 obtain ⟨i0,hi,hz0,hz1,hz2⟩:=info_parts info135
 subst hK
 have h:=run_make (P:=Tryz.prog) w t 169 i0 (.int .u32 0) ht hi hz0 .i64 .i64 (n:Int) (n:Int) (by omega) (Int.le_refl _) (by rw [hz2]; omega) (by omega)
 simpa [hz1,Value.cells] using h
theorem tlen_step {D:Nat→Nat} {k:Nat} (h:0<k) (e:((D (k - 1):Int) == 0)=true):tlen D (k - 1)=tlen D k:=by
 obtain ⟨m,rfl⟩:∃ m,k=m+1:=⟨k - 1,by omega⟩
 have:D m=0:=by simpa using e
 simp [tlen,this]
theorem tlen_stop {D:Nat→Nat} {k:Nat} (h:0<k) (e:((D (k - 1):Int) == 0)=false):tlen D k=k:=by
 obtain ⟨m,rfl⟩:∃ m,k=m+1:=⟨k - 1,by omega⟩
 have:D m ≠ 0:=by simpa using e
 simp [tlen,this]
set_option maxHeartbeats 400000 in
theorem trim_pos (g n cap:Nat) (D:Nat→Nat) (w:World) (hn:n≤cap) (hm:cap≤9223372036854775807) (hc:Cells w g n D) :
  Calls Tryz.prog 153 #[.slice (some ⟨g,0,none⟩) n cap] w fun e w' => e=.returned (.slice (some ⟨g,0,none⟩) (tlen D n) cap)∧w=w':=by
 go_enter Tryz.func153,Tryz.ntmps153
 go_wp2
 go_loop [0] (fun v => ∃ k:Nat,k≤n∧tlen D k=tlen D n∧v=.slice (some ⟨g,0,none⟩) k cap) (fun v => lenOf v)
 case atStart => exact ⟨n,Nat.le_refl _,rfl,rfl⟩
 case round =>
  obtain ⟨k,hk,ht,rfl⟩:=hrel
  have HT:=Lib.hid ht; clear ht
  by_cases h0:0<k
  ·have hcell:=hc (k - 1) (by omega)
   clear hc
   go_wp2
   ·have h1:((D (k - 1):Int) == 0)=true:=by assumption
    go_round
    case rel => exact ⟨k - 1,by omega,(tlen_step h0 h1).trans HT.out,rfl⟩
    case measure => simp [lenOf]; omega
   ·have h1:((D (k - 1):Int) == 0)=false:=by assumption
    go_ret
    exact ⟨ret_slice (by rw [← HT.out,tlen_stop h0 h1]),rfl⟩
  ·obtain rfl:k=0:=by omega
   clear hc
   go_wp2
   go_ret
   exact ⟨ret_slice (by rw [← HT.out]; rfl),rfl⟩
theorem trim_nil (w:World):Calls Tryz.prog 153 #[.slice none 0 0] w fun e w' => e=.returned (.slice none 0 0)∧w=w':=by
 go_enter Tryz.func153,Tryz.ntmps153
 go_wp2
 refine wp_loop_rounds 1 ?_
 rw [rounds_succ]
 go_wp2
 go_ret
 exact ⟨rfl,rfl⟩
def RetTrim (n:Nat) (D:Nat→Nat) (w:World) (e:Ending) (w':World):Prop:=∃ v,e=.returned v∧Sl w' v (tlen D n) D∧w=w'
theorem trim_any {n:Nat} {D:Nat→Nat} {v:Value} {w:World} (h:Sl w v n D) :
  Calls Tryz.prog 153 #[v] w (RetTrim n D w):=by
 rcases h with ⟨rfl,rfl⟩ | ⟨g,cap,rfl,h1,h2,h3⟩
 ·exact (trim_nil w).mono fun e w' ⟨he,hw⟩ => ⟨_,he,by subst hw; exact .inl ⟨rfl,rfl⟩,hw⟩
 ·refine (trim_pos g n cap D w h1 h2 h3).mono fun e w' ⟨he,hw⟩ => ⟨_,he,?_,hw⟩
  subst hw
  have:=tlen_le D n
  exact .inr ⟨g,cap,rfl,by omega,h2,fun i hi => h3 i (by omega)⟩
theorem RetTrim.num {B n:Nat} {D:Nat→Nat} {w w':World} {e:Ending} (hD:∀ i,i<n→D i<B) (h:RetTrim n D w e w') :
  ∃ v,e=.returned v∧IsN B w' v (fval B D n)∧w=w' :=
 let ⟨v,he,hs,hw⟩:=h; ⟨v,he,⟨_,D,Rep.trim hD,hs⟩,hw⟩
def twoD (n:Nat):Nat→Nat:=fun i => if i=0 then n % 4294967296 else n / 4294967296
theorem twoD_dig {n:Nat} (h:n<18446744073709551616) (i:Nat):twoD n i<B32:=by
 unfold twoD B32; split <;> omega
theorem twoD_val (n:Nat):fval B32 (twoD n) 2=n:=by
 simp [fval,twoD,B32]; omega
set_option maxHeartbeats 400000 in
theorem natOf_any (n:Nat) (hn:n<18446744073709551616) (w:World) :
  Calls Tryz.prog 117 #[.int .u64 n] w (RetN B32 n w):=by
 go_enter Tryz.func117,Tryz.ntmps117
 go_wp2_with fail
 refine (trim_any (n:=2) (D:=twoD n) (.inr ⟨_,2,rfl,by omega,by omega,?_⟩)).mono ?_
 ·intro i hi
  rw [World.cell?_alloc_at _ _ _ _ rfl]
  have:i=0 ∨ i=1:=by omega
  rcases this with rfl | rfl <;> simp [twoD]
 rintro e w' h
 obtain ⟨v,rfl,hv,rfl⟩:=h.num (fun i _ => twoD_dig hn i)
 rw [twoD_val] at hv
 go_wp2
 go_ret
 exact ⟨_,rfl,hv,below_alloc _ _⟩
set_option maxHeartbeats 400000 in
theorem one_any {X:Nat} {v:Value} {w:World} (h:IsN B32 w v X) :
  Calls Tryz.prog 121 #[v] w fun e w' => e=.returned (.bool (decide (X=1)))∧w=w':=by
 obtain ⟨n,D,hr,hs⟩:=h
 have key:(n=1∧D 0=X) ∨ (n ≠ 1∧X ≠ 1):=by
  by_cases e:n=1
  ·subst e; left; exact ⟨rfl,by have:=hr.eq; simpa [fval] using this⟩
  ·right; refine ⟨e,fun e2 => e ?_⟩
   subst e2
   have h1:=hr.len_le (k:=1) (by decide) (by decide)
   have h2:=hr.zero_iff (by decide)
   omega
 rcases hs with ⟨rfl,rfl⟩ | ⟨g,cap,rfl,h1,h2,h3⟩
 ·have hX:decide (X=1)=false:=by have:=hr.eq; simp [fval] at this; simp [← this]
  have HX:=Lib.hid hX; clear hX key hr
  go_enter Tryz.func121,Tryz.ntmps121
  go_wp2
  go_ret
  exact ⟨ret_bool HX.out.symm,rfl⟩
 ·rcases key with ⟨rfl,rfl⟩ | ⟨hn,hX⟩
  ·have hc:=h3 0 (by omega)
   clear h3 hr
   go_enter Tryz.func121,Tryz.ntmps121
   go_wp2
   go_ret
   exact ⟨ret_bool (by rw [Bool.eq_iff_iff]; simp; omega),rfl⟩
  ·have hb:((n:Int) == 1)=false:=by rw [beq_eq_false_iff_ne]; omega
   have hX':decide (X=1)=false:=by simpa using hX
   have HX:=Lib.hid hX'
   clear h3 hr hX hX'
   go_enter Tryz.func121,Tryz.ntmps121
   go_wp2
   go_ret
   exact ⟨ret_bool HX.out.symm,rfl⟩
theorem cmp_lt (a b:Option Addr) (m n cm cn:Nat) (w:World) (h:m<n) :
  Calls Tryz.prog 200 #[.slice a m cm,.slice b n cn] w fun e w' => e=.returned (.int .i64 (-1))∧w=w':=by
 have hb:((m:Int) != n)=true:=by rw [bne_iff_ne]; omega
 go_enter Tryz.func200,Tryz.ntmps200
 go_wp2
 go_ret
 exact ⟨rfl,rfl⟩
theorem cmp_gt (a b:Option Addr) (m n cm cn:Nat) (w:World) (h:n<m) :
  Calls Tryz.prog 200 #[.slice a m cm,.slice b n cn] w fun e w' => e=.returned (.int .i64 1)∧w=w':=by
 have hb:((m:Int) != n)=true:=by rw [bne_iff_ne]; omega
 go_enter Tryz.func200,Tryz.ntmps200
 go_wp2
 go_ret
 exact ⟨rfl,rfl⟩
theorem cmp_zero (a b:Option Addr) (cm cn:Nat) (w:World) :
  Calls Tryz.prog 200 #[.slice a 0 cm,.slice b 0 cn] w fun e w' => e=.returned (.int .i64 0)∧w=w':=by
 go_enter Tryz.func200,Tryz.ntmps200
 go_wp2
 refine wp_loop_rounds 1 ?_
 rw [rounds_succ]
 go_wp2
 go_ret
 exact ⟨rfl,rfl⟩
theorem cmp_eq (g g' n cm cn:Nat) (D E:Nat→Nat) (w:World) (hn:0<n) (h1:n≤9223372036854775807) (hD:∀ i,i<n→D i<B32) (hE:∀ i,i<n→E i<B32)
  (c1:Cells w g n D) (c2:Cells w g' n E) :
  Calls Tryz.prog 200 #[.slice (some ⟨g,0,none⟩) n cm,.slice (some ⟨g',0,none⟩) n cn] w fun e w' => e=.returned (.int .i64 (cmpN (fval B32 D n) (fval B32 E n)))∧∃ k,w'=w.drewN k:=by
 have hb:((n:Int) != n)=false:=by simp
 go_enter Tryz.func200,Tryz.ntmps200
 go_wp2
 go_loopw [5] (fun v wr => ∃ k:Nat,k≤n∧v=.int .i64 ((k:Int) - 1)∧Hid (∀ j,k≤j→j<n→D j=E j)∧∃ q,wr=w.drewN q) (fun v _ => (intOf v+1).toNat)
 case atStart => exact ⟨n,Nat.le_refl _,rfl,fun j h1 h2 => by omega,0,rfl⟩
 case round =>
  obtain ⟨k,hk,rfl,he,q,rfl⟩:=hrel
  by_cases h0:0<k
  ·obtain ⟨m,rfl⟩:∃ m,k=m+1:=⟨k - 1,by omega⟩
   have e1:(((m+1:Nat):Int) - 1)=(m:Int):=by omega
   rw [e1]
   have hcx:=c1 m (by omega)
   have hcy:=c2 m (by omega)
   by_cases hne:D m=E m
   ·have hb1:((D m:Int) != (E m:Int))=false:=by simp [hne]
    have HN:=Lib.hid hne
    clear c1 c2 hD hE hne
    go_wp2
    go_quiet (fail)
    go_wp2
    go_roundw
    case rel => exact ⟨m,by omega,rfl,fun j h1 h2 => by
     by_cases e:j=m
     ·subst e; exact HN.out
     ·exact he.out j (by omega) h2,_,rfl⟩
    case measure => simp [intOf]
   ·have hb1:((D m:Int) != (E m:Int))=true:=bne_iff_ne.2 (by omega)
    rcases Nat.lt_or_gt_of_ne hne with hl | hl
    ·have HF:Hid (cmpN (fval B32 D n) (fval B32 E n) = -1):=by
      have:=fval_lt_of_digit hD m (by omega) (fun k h1 h2 => he.out k (by omega) h2) hl
      show cmpN _ _ = -1
      rw [cmpN,if_pos this]
     have hl2:(D m:Int)<(E m:Int):=by omega
     clear c1 c2 hD hE hne hl
     go_wp2
     go_quiet (fail)
     go_wp2
     go_quiet (fail)
     go_wp2
     go_ret
     exact ⟨ret_int HF.out.symm,_,by rw [World.drewN_drewN,World.drewN_drewN]⟩
    ·have HF:Hid (cmpN (fval B32 D n) (fval B32 E n)=1):=by
      have:=fval_lt_of_digit hE m (by omega) (fun k h1 h2 => (he.out k (by omega) h2).symm) hl
      show cmpN _ _=1
      rw [cmpN,if_neg (by omega),if_pos this]
     have hl2:(E m:Int)<(D m:Int):=by omega
     clear c1 c2 hD hE hne hl
     go_wp2
     go_quiet (fail)
     go_wp2
     go_quiet (fail)
     go_wp2
     go_ret
     exact ⟨ret_int HF.out.symm,_,by rw [World.drewN_drewN,World.drewN_drewN]⟩
  ·obtain rfl:k=0:=by omega
   have HF:Hid (cmpN (fval B32 D n) (fval B32 E n)=0):=by
    have:fval B32 D n=fval B32 E n:=fval_congr n (fun i hi => he.out i (by omega) hi)
    show cmpN _ _=0
    rw [cmpN,this]; simp
   clear c1 c2 hD hE
   go_wp2
   go_ret
   exact ⟨ret_int HF.out.symm,_,rfl⟩
def RetQ (v:Value) (w:World) (e:Ending) (w':World):Prop:=e=.returned v∧∃ k,w'=w.drewN k
theorem cmp_any {X Y:Nat} {x y:Value} {w:World} (hx:IsN B32 w x X) (hy:IsN B32 w y Y) :
  Calls Tryz.prog 200 #[x,y] w (RetQ (.int .i64 (cmpN X Y)) w):=by
 obtain ⟨m,D,r1,s1⟩:=hx
 obtain ⟨n,E,r2,s2⟩:=hy
 have shape:∀ {v:Value} {k:Nat} {F:Nat→Nat},Sl w v k F→∃ a c,v=.slice a k c:=fun h => by
  rcases h with ⟨rfl,rfl⟩ | ⟨g,cap,rfl,_⟩
  ·exact ⟨_,_,rfl⟩
  ·exact ⟨_,_,rfl⟩
 rcases Nat.lt_trichotomy m n with h | h | h
 ·obtain ⟨a,c,rfl⟩:=shape s1
  obtain ⟨b,d,rfl⟩:=shape s2
  refine (cmp_lt a b m n c d w h).mono fun e w' ⟨he,hw⟩ => ⟨?_,0,hw.symm⟩
  rw [he,cmpN,if_pos (r1.lt_of_len (by decide) r2 h)]
 ·subst h
  rw [← r1.eq,← r2.eq]
  by_cases h0:m=0
  ·subst h0
   obtain ⟨a,c,rfl⟩:=shape s1
   obtain ⟨b,d,rfl⟩:=shape s2
   exact (cmp_zero a b c d w).mono fun e w' ⟨he,hw⟩ => ⟨he,0,hw.symm⟩
  ·rcases s1 with ⟨_,h⟩ | ⟨g,c,rfl,h1,h2,h3⟩
   ·exact absurd h h0
   rcases s2 with ⟨_,h⟩ | ⟨g',d,rfl,h4,h5,h6⟩
   ·exact absurd h h0
   exact cmp_eq g g' m c d D E w (by omega) (by omega) r1.dig r2.dig h3 h6
 ·obtain ⟨a,c,rfl⟩:=shape s1
  obtain ⟨b,d,rfl⟩:=shape s2
  refine (cmp_gt a b m n c d w h).mono fun e w' ⟨he,hw⟩ => ⟨?_,0,hw.symm⟩
  have:=r2.lt_of_len (by decide) r1 h
  rw [he,cmpN,if_neg (by omega),if_pos this]
def addLo (x y c:Nat):Nat:=(x+y+c) % 4294967296
def addHi (x y c:Nat):Nat:=(x+y+c) / 4294967296
theorem add_eq (x y c:Nat):addLo x y c+B32 * addHi x y c=x+y+c:=by unfold addLo addHi B32; omega
theorem addLo_lt (x y c:Nat):addLo x y c<B32:=by unfold addLo B32; omega
theorem addHi_le {x y c:Nat} (hx:x<B32) (hy:y<B32) (hc:c≤1):addHi x y c≤1:=by unfold addHi; unfold B32 at *; omega
theorem add32_any (x y c:Nat) (hx:x<B32) (hy:y<B32) (hc:c≤1) (w:World) :
  Calls Tryz.prog 222 #[.int .u32 x,.int .u32 y,.int .u32 c] w fun e w' => e=.returned (.tuple #[.int .u32 (addLo x y c),.int .u32 (addHi x y c)])∧w=w':=by
 unfold B32 at hx hy
 go_enter Tryz.func222,Tryz.ntmps222
 go_wp2
 go_ret2
 exact ⟨rfl,rfl⟩
def subLo (x y b:Nat):Nat:=(x+2 * 4294967296 - y - b) % 4294967296
def subHi (x y b:Nat):Nat:=if x<y+b then 1 else 0
theorem sub_eq {x y b:Nat} (hx:x<B32) (hy:y<B32) (hb:b≤1):subLo x y b+y+b=x+B32 * subHi x y b:=by
 unfold subLo subHi; unfold B32 at *; split <;> omega
theorem subLo_lt (x y b:Nat):subLo x y b<B32:=by unfold subLo B32; omega
theorem subHi_le (x y b:Nat):subHi x y b≤1:=by unfold subHi; split <;> omega
def borrowBits (x y d:Nat):Nat:=((4294967295 ^^^ x) &&& y) ||| ((4294967295 ^^^ (x ^^^ y)) &&& d)
theorem borrow_eq {x y b d:Nat} (hx:x<4294967296) (hy:y<4294967296) (hb:b≤1) (hd:d=subLo x y b) :
  borrowBits x y d / 2147483648=subHi x y b:=by
 unfold subLo at hd
 have hd':d<4294967296:=by omega
 unfold borrowBits subHi
 have e:∀ n:Nat,n / 2147483648=n >>> 31:=fun n => (Nat.shiftRight_eq_div_pow n 31).symm
 rw [e,Nat.shiftRight_or_distrib,Nat.shiftRight_and_distrib,Nat.shiftRight_and_distrib,Nat.shiftRight_xor_distrib,Nat.shiftRight_xor_distrib,Nat.shiftRight_xor_distrib,← e x,← e y,← e d,
  show (4294967295:Nat) >>> 31=1 from rfl]
 have cx:x / 2147483648=0 ∨ x / 2147483648=1:=by omega
 have cy:y / 2147483648=0 ∨ y / 2147483648=1:=by omega
 have cd:d / 2147483648=0 ∨ d / 2147483648=1:=by omega
 rcases cx with cx | cx <;> rcases cy with cy | cy <;> rcases cd with cd | cd <;> rw [cx,cy,cd] <;> (split <;> first | rfl | (exfalso; omega))
theorem sub_bits {x y d:Nat} (hx:x<4294967296) (hy:y<4294967296) (hd:d<4294967296) :
  bits .or .u32 (bits .and .u32 (bits .xor .u32 IntKind.u32.max (x:Int)) (y:Int)) (bits .and .u32 (bits .xor .u32 IntKind.u32.max (bits .xor .u32 (x:Int) (y:Int))) (d:Int))=(borrowBits x y d:Nat):=by
 have hm:IntKind.u32.max=((4294967295:Nat):Int):=by decide
 have lt:∀ {a b:Nat},a<4294967296→b<4294967296→a ^^^ b<4294967296:=fun h1 h2 => Nat.xor_lt_two_pow (n:=32) h1 h2
 have la:∀ {a b:Nat},b<4294967296→a &&& b<4294967296:=fun h2 => Nat.lt_of_le_of_lt Nat.and_le_right h2
 rw [hm,u32_xor_nat _ _ (by decide) hx,u32_xor_nat _ _ hx hy,u32_xor_nat _ _ (by decide) (lt hx hy),u32_and_nat _ _ (lt (by decide) hx) hy,
  u32_and_nat _ _ (lt (by decide) (lt hx hy)) hd,u32_or_nat _ _ (la hy) (la hd)]
 rfl
theorem sub_ret {x y b:Nat} (hx:x<4294967296) (hy:y<4294967296) (hb:b≤1) :
  ((x:Int) - y - b) % 4294967296=(subLo x y b:Nat) ∧
  bits .or .u32 (bits .and .u32 (bits .xor .u32 IntKind.u32.max (x:Int)) (y:Int)) (bits .and .u32 (bits .xor .u32 IntKind.u32.max (bits .xor .u32 (x:Int) (y:Int))) (((x:Int) - y - b) % 4294967296)) / 2147483648=(subHi x y b:Nat):=by
 have h1:((x:Int) - y - b) % 4294967296=(subLo x y b:Nat):=by unfold subLo; omega
 refine ⟨h1,?_⟩
 have h3:subLo x y b<4294967296:=subLo_lt x y b
 rw [h1,sub_bits hx hy h3,← borrow_eq hx hy hb rfl]
 omega
theorem ret_pair {k:IntKind} {a b c d:Int} (h1:a=c) (h2:b=d):Ending.returned (.tuple #[.int k a,.int k b])=.returned (.tuple #[.int k c,.int k d]):=by rw [h1,h2]
theorem sub32_any (x y b:Nat) (hx:x<B32) (hy:y<B32) (hb:b≤1) (w:World) :
  Calls Tryz.prog 234 #[.int .u32 x,.int .u32 y,.int .u32 b] w fun e w' => e=.returned (.tuple #[.int .u32 (subLo x y b),.int .u32 (subHi x y b)])∧w=w':=by
 unfold B32 at hx hy
 have H:=Lib.hid (sub_ret hx hy hb)
 go_enter Tryz.func234,Tryz.ntmps234
 go_wp2
 go_ret2
 exact ⟨ret_pair H.out.1 H.out.2,rfl⟩
def cutD (E:Nat→Nat) (n:Nat):Nat→Nat:=fun i => if i<n then E i else 0
theorem cutD_val (B:Nat) (E:Nat→Nat) {n m:Nat} (h:n≤m):fval B (cutD E n) m=fval B E n:=by
 rw [fval_zeros h (fun i h1 h2 => by simp [cutD]; omega)]
 exact fval_congr n (fun i hi => by simp [cutD,hi])
theorem cutD_lt {B:Nat} {E:Nat→Nat} {n:Nat} (hB:0<B) (h:∀ i,i<n→E i<B) (i:Nat):cutD E n i<B:=by
 unfold cutD; split
 ·exact h i ‹_›
 ·exact hB
theorem add_step {B L s x y r c c' p q:Nat} (h:s+L * c=p+q) (hr:r+B * c'=x+y+c) :
  (s+L * r)+L * B * c'=(p+L * x)+(q+L * y):=by
 have e:L * (r+B * c')=L * (x+y+c):=by rw [hr]
 simp only [Nat.mul_add,← Nat.mul_assoc] at e
 omega
structure AddInv (w:World) (m:Nat) (D E:Nat→Nat) (k c:Nat) (O:Nat→Nat) (wr:World):Prop where
 arr:Arr wr w.heap.size (m+1) O
 below:Below w.heap.size w wr
 dig:∀ i,i<k→O i<B32
 carry:c≤1
 eq:fval B32 O k+B32 ^ k * c=fval B32 D k+fval B32 E k
theorem AddInv.step {w wr:World} {m k c:Nat} {D E O:Nat→Nat} (h:AddInv w m D E k c O wr) (hk:k<m) (hx:D k<B32) (hy:E k<B32) :
  AddInv w m D E (k+1) (addHi (D k) (E k) c) (putD O k (addLo (D k) (E k) c)) (wr.setCell ⟨w.heap.size,k,none⟩ (.int .u32 (addLo (D k) (E k) c))):=by
 refine ⟨h.arr.set k _ (by omega) rfl,h.below.setCell (Nat.le_refl _) _,fun i hi => ?_,addHi_le hx hy h.carry,?_⟩
 ·by_cases e:i=k
  ·subst e; rw [putD_same]; exact addLo_lt _ _ _
  ·rw [putD_other _ _ _ _ e]; exact h.dig i (by omega)
 ·rw [fval_succ,fval_succ,fval_succ,putD_same,fval_congr (E:=O) k (fun i hi => putD_other _ _ _ _ (by omega)),Nat.pow_succ]
  exact add_step h.eq (add_eq _ _ _)
set_option maxHeartbeats 800000 in
theorem add_ge (a b:Option Addr) (g g' m n cm cn:Nat) (D E:Nat→Nat) (w:World) (hmn:n≤m) (hm:m≤100000000000)
  (ha:0<m→a=some ⟨g,0,none⟩) (hb:0<n→b=some ⟨g',0,none⟩) (hD:∀ i,i<m→D i<B32) (hE:∀ i,i<n→E i<B32)
  (c1:Cells w g m D) (c2:Cells w g' n E) :
  Calls Tryz.prog 199 #[.slice a m cm,.slice b n cn] w (RetN B32 (fval B32 D m+fval B32 E n) w):=by
 have hd:decide (m<n)=false:=by simp; omega
 have hmk:=run_makeD (t:=128) Tryz.underlying128 ((m:Int)+1) (m+1) (by omega) (by omega)
 go_enter Tryz.func199,Tryz.ntmps199
 go_wp2
 go_loopw [6,22] (fun cv iv wr => ∃ k c O,k≤m∧iv=.int .i64 (k:Nat)∧cv=.int .u32 (c:Nat)∧AddInv w m D (cutD E n) k c O wr) (fun _ iv _ => m - (intOf iv).toNat)
 case atStart => exact ⟨0,0,_,by omega,rfl,rfl,Arr.made _ _ _,below_alloc _ _,fun i hi => by omega,by omega,rfl⟩
 case round =>
  obtain ⟨k,c,O,hk,rfl,rfl,hI⟩:=hrel
  by_cases hlt:k<m
  ·have hdx:=hD k hlt
   have hdy:=cutD_lt (B:=B32) (by decide) hE k
   have hst:=Lib.hid (hI.step hlt hdx hdy)
   have hx:wr.cell? ⟨g,k,none⟩=some (.int .u32 (D k)):=c1.later hI.below (Nat.le_refl _) k hlt
   have ho:=hI.arr.cell k (by omega)
   have hf:=hI.arr.free k
   have hc1:=hI.carry
   have hA:=ha (by omega)
   subst hA
   by_cases hkn:k<n
   ·have hy:wr.cell? ⟨g',k,none⟩=some (.int .u32 (E k)):=c2.later hI.below (Nat.le_refl _) k hkn
    have hB:=hb (by omega)
    subst hB
    have hcut:cutD E n k=E k:=by simp [cutD,hkn]
    rw [hcut] at hst hdy
    clear hD hE c1 c2 hI ha hb hcut
    go_wp2_with (go_at_call 222; refine (add32_any _ _ _ hdx hdy hc1 _).mono ?_; rintro e w' ⟨rfl,rfl⟩)
    go_roundw
    case rel => exact ⟨k+1,_,_,by omega,by go_num,rfl,hst.out⟩
    case measure => simp [intOf]; omega
   ·have hcut:cutD E n k=0:=by simp [cutD,hkn]
    rw [hcut] at hst hdy
    clear hD hE c1 c2 hI ha hb hcut
    go_wp2_with (go_at_call 222; refine (add32_any _ 0 _ hdx hdy hc1 _).mono ?_; rintro e w' ⟨rfl,rfl⟩)
    go_roundw
    case rel => exact ⟨k+1,_,_,by omega,by go_num,rfl,hst.out⟩
    case measure => simp [intOf]; omega
  ·obtain rfl:k=m:=by omega
   have ho:=hI.arr.cell k (by omega)
   have hf:=hI.arr.free k
   have hc1:=hI.carry
   have hset:=hI.arr.set k c (by omega) rfl
   have hbel:=hI.below.setCell (p:=⟨w.heap.size,k,none⟩) (Nat.le_refl _) (.int .u32 (c:Nat))
   have hdig:∀ i,i<k+1→putD O k c i<B32:=fun i hi => by
    by_cases e:i=k
    ·subst e; rw [putD_same]; unfold B32; omega
    ·rw [putD_other _ _ _ _ e]; exact hI.dig i (by omega)
   have hval:Hid (fval B32 (putD O k c) (k+1)=fval B32 D k+fval B32 E n):=by
    show fval B32 (putD O k c) (k+1)=_
    rw [fval_succ,putD_same,fval_congr (E:=O) k (fun i hi => putD_other _ _ _ _ (by omega)),hI.eq,cutD_val _ _ hmn]
   clear hD hE c1 c2 hI ha hb
   go_wp2_with fail
   refine (trim_any (n:=k+1) (D:=putD O k c) (.inr ⟨_,_,rfl,by omega,by omega,hset.cell⟩)).mono ?_
   rintro e w' h
   obtain ⟨v,rfl,hv,rfl⟩:=h.num hdig
   rw [hval.out] at hv
   clear hset hdig
   go_wp2
   go_ret
   exact ⟨_,rfl,hv,hbel⟩
set_option maxHeartbeats 800000 in
theorem add_lt (a b:Option Addr) (g g' m n cm cn:Nat) (D E:Nat→Nat) (w:World) (hmn:n<m) (hm:m≤100000000000)
  (ha:0<m→a=some ⟨g,0,none⟩) (hb:0<n→b=some ⟨g',0,none⟩) (hD:∀ i,i<m→D i<B32) (hE:∀ i,i<n→E i<B32)
  (c1:Cells w g m D) (c2:Cells w g' n E) :
  Calls Tryz.prog 199 #[.slice b n cn,.slice a m cm] w (RetN B32 (fval B32 D m+fval B32 E n) w):=by
 have hd:decide (n<m)=true:=by simp; omega
 have hmk:=run_makeD (t:=128) Tryz.underlying128 ((m:Int)+1) (m+1) (by omega) (by omega)
 go_enter Tryz.func199,Tryz.ntmps199
 go_wp2
 go_loopw [6,22] (fun cv iv wr => ∃ k c O,k≤m∧iv=.int .i64 (k:Nat)∧cv=.int .u32 (c:Nat)∧AddInv w m D (cutD E n) k c O wr) (fun _ iv _ => m - (intOf iv).toNat)
 case atStart => exact ⟨0,0,_,by omega,rfl,rfl,Arr.made _ _ _,below_alloc _ _,fun i hi => by omega,by omega,rfl⟩
 case round =>
  obtain ⟨k,c,O,hk,rfl,rfl,hI⟩:=hrel
  by_cases hlt:k<m
  ·have hdx:=hD k hlt
   have hdy:=cutD_lt (B:=B32) (by decide) hE k
   have hst:=Lib.hid (hI.step hlt hdx hdy)
   have hx:wr.cell? ⟨g,k,none⟩=some (.int .u32 (D k)):=c1.later hI.below (Nat.le_refl _) k hlt
   have ho:=hI.arr.cell k (by omega)
   have hf:=hI.arr.free k
   have hc1:=hI.carry
   have hA:=ha (by omega)
   subst hA
   by_cases hkn:k<n
   ·have hy:wr.cell? ⟨g',k,none⟩=some (.int .u32 (E k)):=c2.later hI.below (Nat.le_refl _) k hkn
    have hB:=hb (by omega)
    subst hB
    have hcut:cutD E n k=E k:=by simp [cutD,hkn]
    rw [hcut] at hst hdy
    clear hD hE c1 c2 hI ha hb hcut
    go_wp2_with (go_at_call 222; refine (add32_any _ _ _ hdx hdy hc1 _).mono ?_; rintro e w' ⟨rfl,rfl⟩)
    go_roundw
    case rel => exact ⟨k+1,_,_,by omega,by go_num,rfl,hst.out⟩
    case measure => simp [intOf]; omega
   ·have hcut:cutD E n k=0:=by simp [cutD,hkn]
    rw [hcut] at hst hdy
    clear hD hE c1 c2 hI ha hb hcut
    go_wp2_with (go_at_call 222; refine (add32_any _ 0 _ hdx hdy hc1 _).mono ?_; rintro e w' ⟨rfl,rfl⟩)
    go_roundw
    case rel => exact ⟨k+1,_,_,by omega,by go_num,rfl,hst.out⟩
    case measure => simp [intOf]; omega
  ·obtain rfl:k=m:=by omega
   have ho:=hI.arr.cell k (by omega)
   have hf:=hI.arr.free k
   have hc1:=hI.carry
   have hset:=hI.arr.set k c (by omega) rfl
   have hbel:=hI.below.setCell (p:=⟨w.heap.size,k,none⟩) (Nat.le_refl _) (.int .u32 (c:Nat))
   have hdig:∀ i,i<k+1→putD O k c i<B32:=fun i hi => by
    by_cases e:i=k
    ·subst e; rw [putD_same]; unfold B32; omega
    ·rw [putD_other _ _ _ _ e]; exact hI.dig i (by omega)
   have hval:Hid (fval B32 (putD O k c) (k+1)=fval B32 D k+fval B32 E n):=by
    show fval B32 (putD O k c) (k+1)=_
    rw [fval_succ,putD_same,fval_congr (E:=O) k (fun i hi => putD_other _ _ _ _ (by omega)),hI.eq,cutD_val _ _ (Nat.le_of_lt hmn)]
   clear hD hE c1 c2 hI ha hb
   go_wp2_with fail
   refine (trim_any (n:=k+1) (D:=putD O k c) (.inr ⟨_,_,rfl,by omega,by omega,hset.cell⟩)).mono ?_
   rintro e w' h
   obtain ⟨v,rfl,hv,rfl⟩:=h.num hdig
   rw [hval.out] at hv
   clear hset hdig
   go_wp2
   go_ret
   exact ⟨_,rfl,hv,hbel⟩
theorem Sl.shape {w:World} {v:Value} {n:Nat} {D:Nat→Nat} (h:Sl w v n D):∃ a g cap,v=.slice a n cap∧(0<n→a=some ⟨g,0,none⟩)∧n≤cap∧cap≤9223372036854775807∧Cells w g n D:=by
 rcases h with ⟨rfl,rfl⟩ | ⟨g,cap,rfl,h1,h2,h3⟩
 ·exact ⟨none,0,0,rfl,fun h => by omega,Nat.le_refl _,by omega,fun i hi => by omega⟩
 ·exact ⟨_,g,cap,rfl,fun _ => rfl,h1,h2,h3⟩
theorem add_any {X Y:Nat} {x y:Value} {w:World} (hx:IsN B32 w x X) (hy:IsN B32 w y Y) (sx:Sm X) (sy:Sm Y) :
  Calls Tryz.prog 199 #[x,y] w (RetN B32 (X+Y) w):=by
 obtain ⟨m,D,r1,s1⟩:=hx
 obtain ⟨n,E,r2,s2⟩:=hy
 have l1:=sx.len r1
 have l2:=sy.len r2
 obtain ⟨a,g,cm,rfl,h1,_,_,h2⟩:=s1.shape
 obtain ⟨b,g',cn,rfl,h3,_,_,h4⟩:=s2.shape
 rw [← r1.eq,← r2.eq]
 by_cases h:n≤m
 ·exact add_ge a b g g' m n cm cn D E w h (by omega) h1 h3 r1.dig r2.dig h2 h4
 ·rw [Nat.add_comm]
  exact add_lt b a g' g n m cn cm E D w (by omega) (by omega) h3 h1 r2.dig r1.dig h4 h2
end Go.Proofs.YtdbnebhehiiakaaGreatDoor
