/- Lemmas and contracts, each under its own condition: The reference's natural numbers, contracts: trim, natural, digit, short, compare. The reference's natural numbers, contracts: plus, minus. The reference's natural numbers, contracts: times. The reference's natural numbers, contracts: compare, over. The reference's natural numbers, contracts: over (the long way), common, length. The reference's natural numbers, contracts: common, length. The reference's natural numbers, contract: decimal. The reference's rational numbers, contracts: reduced, size, Of. The reference's rational numbers, contracts: Text, Bits, Sign, Whole, Floor. The reference's rational numbers, contracts: Bits, Sign, Whole, Floor, word, Value. The reference's rational numbers, contracts: Floor, word, Missing, Truth, Value. The reference's rational numbers, contract: Value. -/
import Derived.Deep.RegionHeld3
import Derived.Deep.AppendLies
import Derived.Deep.Upon
import Derived.Laws.IdiomStrings
import Derived.Test.YtdbnebhehiiakaaGreatDoorN2
import Derived.Test.YtdbnebhehiiakaaGreatDoorN3
import Derived.Test.YtdbnebhehiiakaaGreatDoorR1
import Derived.Test.YtdbnebhehiiakaaGreatDoorT1
import Derived.Test.YtdbnebhehiiakaaGreatDoorV2
namespace Go.Proofs.YtdbnebhehiiakaaGreatDoor
open Go.RowKit
def rowD (D:Nat→Nat) (n:Nat):List Value:=(List.range n).map fun i => .int .u32 (D i:Nat)
theorem rowD_len (D:Nat→Nat) (n:Nat):(rowD D n).length=n:=by simp [rowD]
theorem rowD_get {D:Nat→Nat} {n i:Nat} (h:i<n):(rowD D n)[i]? = some (.int .u32 (D i:Nat)):=by simp [rowD,h]
theorem rowD_congr {D E:Nat→Nat} (n:Nat) (h:∀ i,i<n→D i=E i):rowD D n=rowD E n:=by
 unfold rowD; apply List.map_congr_left; intro i hi; rw [h i (List.mem_range.1 hi)]
theorem rowD_put (D:Nat→Nat) (k d:Nat):rowD D k ++ [.int .u32 (d:Nat)]=rowD (putD D k d) (k+1):=by
 rw [show rowD (putD D k d) (k+1)=rowD (putD D k d) k ++ [.int .u32 ((putD D k d) k:Nat)] from by simp [rowD,List.range_succ]]
 rw [putD_same,rowD_congr k (fun i hi => putD_other _ _ _ _ (by omega))]
theorem addr0 (g j:Nat):(⟨g,0,none⟩:Addr).add j=⟨g,j,none⟩:=by unfold Addr.add; split <;> simp_all
theorem own_sl {w:World} {base:Nat} {e:TypeId} {v:Value} {n:Nat} {D:Nat→Nat} (h:w.ownsRow base e 1 v n (rowD D n)):Sl w v n D:=by
 have hc:=fun g hg => h.cells (g:=g) hg
 rcases h.2 with ⟨rfl,rfl⟩ | ⟨g,cap,cur,rfl,hb,hg,hn,hm,_⟩
 ·exact .inl ⟨rfl,rfl⟩
 ·refine .inr ⟨g,cap,rfl,hn,by unfold maxLen at hm; omega,fun i hi => ?_⟩
  have:=hc g rfl i _ (rowD_get hi)
  rwa [addr0] at this
theorem wpList_append_dig {ops:Array Oper} {rest:List Oper} {o:Oper} {a:Act} {Q:Exit→Act→World→Prop} {w1:World} (hgd:o.guard=none) (s x:Operand)
  (ho:o.op=.call { callee:=.builtin .append,args:=#[s,x],argTypes:=#[127,127] })
  (w:World) (O:Nat→Nat) (k d:Nat) (z v:Value) (hown:w1.ownsRow w.heap.size 169 1 v k (rowD O k)) (hz:z=.int .u32 (d:Nat)) (hs:a.eval s=v)
  (hx:a.eval x=.slice (some ⟨w1.heap.size,0,none⟩) 1 1) (hk:k≤1000000000) (hb:Below w.heap.size w w1)
  (h:∀ v' w',w'.ownsRow w.heap.size 169 1 v' (k+1) (rowD (putD O k d) (k+1))→Below w.heap.size w w'→wpList Tryz.prog ops Q rest (a.put o.dst v') w') :
  wpList Tryz.prog ops Q (o :: rest) a (w1.alloc (.cells #[z] 169)):=by
 obtain ⟨i0,hi,hz0,hz1,hz2⟩:=info_parts info135
 subst hz
 refine wpList_append_own _ hgd s x 127 ho w.heap.size 169 i0 (.int .u32 0) 1 4 Tryz.underlying127 hi hz0 hz1 hz2 rfl (by decide) v k (rowD O k) hs (hown.alloc _) ⟨w1.heap.size,0,none⟩ 1 1 [.int .u32 (d:Nat)] hx rfl ?_ ?_ ?_ ?_ ?_ ?_
 ·intro j u hj
  match j,hj with
  | 0,hj => simp at hj; subst hj; rw [show ((⟨w1.heap.size,0,none⟩:Addr).add 0)=⟨w1.heap.size,0,none⟩ from rfl,World.cell?_alloc_at _ _ _ _ rfl]; rfl
 ·intro u hu; simp at hu; subst hu; rfl
 ·unfold maxLen; omega
 ·omega
 ·have:=hb.size; simp; omega
 intro v' w2 hown2 hgrow _
 rw [rowD_put] at hown2
 exact h v' w2 hown2 ((hb.alloc hb.size _).grown hgrow (by have:=hb.size; simp; omega) (fun k hk => (hown.lt k hk).1))
set_option maxHeartbeats 400000 in
theorem rtrim_pos (g n cap:Nat) (D:Nat→Nat) (w:World) (hn:n≤cap) (hm:cap≤9223372036854775807) (hc:Cells w g n D) :
  Calls Tryz.prog 214 #[.slice (some ⟨g,0,none⟩) n cap] w fun e w' => e=.returned (.slice (some ⟨g,0,none⟩) (tlen D n) cap)∧w=w':=by
 go_enter Tryz.func214,Tryz.ntmps214
 go_wp2
 go_loop [0] (fun v => ∃ k:Nat,k≤n∧tlen D k=tlen D n∧v=.slice (some ⟨g,0,none⟩) k cap) (fun v => lenOf v)
 case atStart => exact ⟨n,Nat.le_refl _,rfl,rfl⟩
 case round =>
  obtain ⟨k,hk,ht,rfl⟩:=hrel
  have HT:=Lib.hid ht; clear ht
  by_cases h0:0<k
  ·have hcell:=hc (k - 1) (by omega)
   clear hc
   go_wp2
   ·have h1:((D (k - 1):Int) == 0)=true:=by assumption
    go_round
    case rel => exact ⟨k - 1,by omega,(tlen_step h0 h1).trans HT.out,rfl⟩
    case measure => simp [lenOf]; omega
   ·have h1:((D (k - 1):Int) == 0)=false:=by assumption
    go_ret
    exact ⟨ret_slice (by rw [← HT.out,tlen_stop h0 h1]),rfl⟩
  ·obtain rfl:k=0:=by omega
   clear hc
   go_wp2
   go_ret
   exact ⟨ret_slice (by rw [← HT.out]; rfl),rfl⟩
theorem rtrim_nil (w:World):Calls Tryz.prog 214 #[.slice none 0 0] w fun e w' => e=.returned (.slice none 0 0)∧w=w':=by
 go_enter Tryz.func214,Tryz.ntmps214
 go_wp2
 refine wp_loop_rounds 1 ?_
 rw [rounds_succ]
 go_wp2
 go_ret
 exact ⟨rfl,rfl⟩
theorem rtrim_any {n:Nat} {D:Nat→Nat} {v:Value} {w:World} (h:Sl w v n D) :
  Calls Tryz.prog 214 #[v] w (RetTrim n D w):=by
 rcases h with ⟨rfl,rfl⟩ | ⟨g,cap,rfl,h1,h2,h3⟩
 ·exact (rtrim_nil w).mono fun e w' ⟨he,hw⟩ => ⟨_,he,by subst hw; exact .inl ⟨rfl,rfl⟩,hw⟩
 ·refine (rtrim_pos g n cap D w h1 h2 h3).mono fun e w' ⟨he,hw⟩ => ⟨_,he,?_,hw⟩
  subst hw
  have:=tlen_le D n
  exact .inr ⟨g,cap,rfl,by omega,h2,fun i hi => h3 i (by omega)⟩
def dg (B n i:Nat):Nat:=n / B ^ i % B
theorem dg_lt {B:Nat} (hB:0<B) (n i:Nat):dg B n i<B:=Nat.mod_lt _ hB
theorem dg_val (B n k:Nat):fval B (dg B n) k=n % B ^ k:=by
 induction k with
 | zero => simp [fval,Nat.mod_one]
 | succ k ih => rw [fval_succ,ih,dg,Nat.pow_succ,Nat.mod_mul]
theorem rep_dg {B n k:Nat} (hB:0<B) (h0:n / B ^ k=0) (h1:k=0 ∨ n / B ^ (k - 1) ≠ 0):Rep B (dg B n) k n:=by
 have hlt:n<B ^ k:=by
  rcases (Nat.div_eq_zero_iff).1 h0 with h | h
  ·have:=Nat.pow_pos (n:=k) hB; omega
  ·exact h
 refine ⟨fun i _ => dg_lt hB n i,fun hk => ?_,by rw [dg_val,Nat.mod_eq_of_lt hlt]⟩
 rcases h1 with h1 | h1
 ·exact absurd h1 hk
 ·obtain ⟨m,rfl⟩:∃ m,k=m+1:=⟨k - 1,by omega⟩
  simp only [Nat.add_sub_cancel] at h1 ⊢
  unfold dg
  rw [Nat.mod_eq_of_lt]
  ·exact h1
  ·rw [Nat.div_lt_iff_lt_mul (Nat.pow_pos hB),Nat.mul_comm,← Nat.pow_succ]; exact hlt
set_option maxHeartbeats 800000 in
set_option maxRecDepth 100000 in
theorem natural_any (n:Nat) (hn:n<18446744073709551616) (w:World) :
  Calls Tryz.prog 130 #[.int .u64 n] w (RetN B9 n w):=by
 have HN:=Lib.hid hn
 go_enter Tryz.func130,Tryz.ntmps130
 go_wp2
 go_loopw [0,3] (fun nv ov wr => ∃ k m:Nat,m≤18446744073709551615∧Hid (m=n / B9 ^ k)∧Hid (k=0 ∨ n / B9 ^ (k - 1) ≠ 0)∧nv=.int .u64 (m:Nat)∧Hid (wr.ownsRow w.heap.size 169 1 ov k (rowD (dg B9 n) k))∧Hid (Below w.heap.size w wr)) (fun nv _ _ => (intOf nv).toNat)
 case atStart => exact ⟨0,n,by omega,by show n=n / B9 ^ 0; simp,.inl rfl,rfl,World.ownsRow_nil _ _ _ _,Below.refl _ _⟩
 case round =>
  obtain ⟨k,m,hm,hk,ht,rfl,hown,hbr⟩:=hrel
  by_cases h0:0<m
  ·have hk3:k≤1000000000:=by
    apply Classical.byContradiction
    intro h
    have h1:B9 ^ 3≤B9 ^ k:=Nat.pow_le_pow_right (by decide) (by omega)
    have h2:m=0:=by
     rw [hk.out]; exact Nat.div_eq_of_lt (Nat.lt_of_lt_of_le HN.out (Nat.le_trans (by decide) h1))
    omega
   have hk3:=Lib.hid hk3
   rename_i hk3'
   clear hk3' hn
   go_wp2_with (at_builtin; refine wpList_append_dig rfl _ _ rfl w (dg B9 n) k (m % 1000000000) _ _ hown.out ?z (by rfl) (by rfl) hk3.out hbr.out ?_)
   case z => go_num
   intro v' w2 hown2 hb2
   have hown3:=Lib.hid hown2
   have HB:=Lib.hid hb2
   clear hown2 hb2
   go_wp2
   refine ⟨⟨k+1,m / 1000000000,by omega,?_,.inr ?_,by go_num,?_,HB.out⟩,?_⟩
   ·show m / 1000000000=n / B9 ^ (k+1)
    rw [hk.out,Nat.div_div_eq_div_mul,Nat.pow_succ]
   ·rw [Nat.add_sub_cancel,← hk.out]; omega
   ·show World.ownsRow _ _ _ _ _ _ _
    rw [rowD_congr (D:=dg B9 n) (E:=putD (dg B9 n) k (m % 1000000000)) (k+1) (fun i hi => ?_)]
    ·exact hown3.out
    ·by_cases e:i=k
     ·subst e; rw [putD_same,hk.out]; rfl
     ·rw [putD_other _ _ _ _ e]
   ·show (((m / 1000000000:Nat):Int)).toNat<_
    simp [intOf]; omega
  ·obtain rfl:m=0:=by omega
   go_wp2
   go_ret
   exact ⟨_,rfl,⟨k,_,rep_dg (by decide) hk.out.symm ht.out,own_sl hown.out⟩,hbr.out⟩
theorem digit_any {w:World} {v:Value} {n:Nat} {D:Nat→Nat} (i:Nat) (h:Sl w v n D) (hD:∀ i,i<n→D i<B9) (hi:i≤9000000000000000000) (hn:n≤9000000000000000000) :
  Calls Tryz.prog 205 #[v,.int .i64 i] w fun e w' => e=.returned (.int .u64 (cutD D n i:Nat))∧w=w':=by
 by_cases hlt:i<n
 ·rcases h with ⟨_,rfl⟩ | ⟨g,cap,rfl,h1,h2,h3⟩
  ·omega
  ·have hc:=h3 i hlt
   have hd:D i<1000000000:=hD i hlt
   clear hD
   have e:cutD D n i=D i:=by simp [cutD,hlt]
   rw [e]
   clear h3 e
   go_enter Tryz.func205,Tryz.ntmps205
   go_wp2
   go_ret
   exact ⟨rfl,rfl⟩
 ·have e:cutD D n i=0:=by simp [cutD,hlt]
  rw [e]
  clear e hD
  obtain ⟨a,g,cap,rfl,-⟩:=h.shape
  go_enter Tryz.func205,Tryz.ntmps205
  go_wp2
  go_ret
  exact ⟨rfl,rfl⟩
structure MinusInv (w:World) (m n:Nat) (D E:Nat→Nat) (k b:Nat) (O:Nat→Nat) (ov:Value) (wr:World):Prop where
 own:wr.ownsRow w.heap.size 169 1 ov k (rowD O k)
 below:Below w.heap.size w wr
 dig:∀ i,i<k→O i<B9
 borrow:b≤1
 eq:fval B9 O k+fval B9 (cutD E n) k=fval B9 D k+B9 ^ k * b
theorem MinusInv.step {w wr w':World} {m n k b d e:Nat} {D E O:Nat→Nat} {ov ov':Value} (h:MinusInv w m n D E k b O ov wr) (hd:d=D k) (he:e=cutD E n k) (hx:d<B9) (hy:e<B9)
  (hown:w'.ownsRow w.heap.size 169 1 ov' (k+1) (rowD (putD O k ((d+1000000000 - e - b) % 1000000000)) (k+1))) (hb:Below w.heap.size w w') :
  MinusInv w m n D E (k+1) (1 - (d+1000000000 - e - b) / 1000000000) (putD O k ((d+1000000000 - e - b) % 1000000000)) ov' w':=by
 have hc:=h.borrow
 unfold B9 at hx hy
 refine ⟨hown,hb,fun i hi => ?_,by omega,?_⟩
 ·by_cases e:i=k
  ·subst e; rw [putD_same]; unfold B9; omega
  ·rw [putD_other _ _ _ _ e]; exact h.dig i (by omega)
 ·rw [fval_succ,fval_succ,fval_succ,putD_same,fval_congr (E:=O) k (fun i hi => putD_other _ _ _ _ (by omega)),Nat.pow_succ,← hd,← he]
  exact sub_step h.eq (by unfold B9; omega)
set_option maxHeartbeats 1600000 in
theorem minus_any {X Y:Nat} {x y:Value} {w:World} (hx:IsN B9 w x X) (hy:IsN B9 w y Y) (sx:Sm X) (hle:Y≤X) :
  Calls Tryz.prog 216 #[x,y] w (RetN B9 (X - Y) w):=by
 obtain ⟨m,D,r1,s1⟩:=hx
 obtain ⟨n,E,r2,s2⟩:=hy
 have l1:=sx.len9 r1
 have l2:=r2.len_mono (by decide) r1 hle
 have HL:=Lib.hid hle
 have R1:=Lib.hid r1
 have R2:=Lib.hid r2
 have S1:=Lib.hid s1
 have S2:=Lib.hid s2
 obtain ⟨a,ga,ca,rfl,-⟩:=s1.shape
 obtain ⟨b,gb,cb,rfl,-⟩:=s2.shape
 clear r1 r2 s1 s2 sx hle
 go_enter Tryz.func216,Tryz.ntmps216
 go_wp2
 go_loopw [5,6,7] (fun ov cv iv wr => ∃ k c O,k≤m∧iv=.int .i64 (k:Nat)∧cv=.int .u64 (c:Nat)∧Hid (MinusInv w m n D E k c O ov wr)) (fun _ cv iv _ => m - (intOf iv).toNat)
 case atStart => exact ⟨0,0,fun _ => 0,by omega,rfl,rfl,World.ownsRow_nil _ _ _ _,Below.refl _ _,fun i hi => by omega,by omega,rfl⟩
 case round =>
  obtain ⟨k,c,O,hk,rfl,rfl,hI⟩:=hrel
  have hc1:=hI.out.borrow
  by_cases hlt:k<m
  ·obtain ⟨d,hd⟩:∃ d,d=D k:=⟨_,rfl⟩
   obtain ⟨e,he⟩:∃ e,e=cutD E n k:=⟨_,rfl⟩
   have hd9:d<1000000000:=hd ▸ R1.out.dig k hlt
   have he9:e<1000000000:=he ▸ cutD_lt (B:=B9) (by decide) R2.out.dig k
   have C1:=Lib.hid (digit_any k (S1.out.later hI.out.below (Nat.le_refl _)) R1.out.dig (by omega) (by omega))
   have C2:=Lib.hid (digit_any k (S2.out.later hI.out.below (Nat.le_refl _)) R2.out.dig (by omega) (by omega))
   rw [show cutD D m k=d from by rw [hd]; simp [cutD,hlt]] at C1
   rw [← he] at C2
   have HD:=Lib.hid hd
   have HE:=Lib.hid he
   have hk9:=Lib.hid (show k≤1000000000 by omega)
   clear hd he
   go_wp2_with fail
   refine C1.out.mono ?_
   rintro e1 w1 ⟨rfl,rfl⟩
   go_wp2_with fail
   refine C2.out.mono ?_
   rintro e2 w2 ⟨rfl,rfl⟩
   go_wp2_with (at_builtin; refine wpList_append_dig rfl _ _ rfl w O k ((d+1000000000 - e - c) % 1000000000) _ _ hI.out.own ?z (by rfl) (by rfl) hk9.out hI.out.below ?_)
   case z => go_num
   intro v' w2 hown2 hb2
   have hst:=Lib.hid (hI.out.step HD.out HE.out hd9 he9 hown2 hb2)
   clear hown2 hb2
   go_wp2
   exact ⟨⟨k+1,_,_,by omega,by go_num,by go_num,hst.out⟩,by show _<_; simp [intOf]; omega⟩
  ·obtain rfl:k=m:=by omega
   have hsl:=Lib.hid (own_sl hI.out.own)
   go_wp2_with fail
   refine (rtrim_any (n:=k) (D:=O) hsl.out).mono ?_
   rintro e w' h
   obtain ⟨v,rfl,hv,rfl⟩:=h.num (B:=B9) hI.out.dig
   have hval:fval B9 O k=X - Y:=by
    have h1:=hI.out.eq
    have h2:=fval_lt k hI.out.dig
    have h3:=HL.out
    rw [cutD_val _ _ l2,R1.out.eq,R2.out.eq] at h1
    have:c=0:=by
     rcases Nat.lt_or_ge 0 c with h5 | h5
     ·obtain rfl:c=1:=by omega
      omega
     ·omega
    subst this
    omega
   rw [hval] at hv
   have hv:=Lib.hid hv
   rename_i hv'
   clear hv' hval
   go_wp2
   go_ret
   exact ⟨_,rfl,hv.out,hI.out.below⟩
structure Mul9 (w:World) (N i n d P:Nat) (E:Nat→Nat) (k c:Nat) (O:Nat→Nat) (wr:World):Prop where
 arr:Arr wr w.heap.size N O
 below:Below w.heap.size w wr
 dig:∀ j,j<N→O j<B9
 zero:∀ j,i+n≤j→i+k≤j→j<N→O j=0
 carry:c<B9
 len:k≤n+1
 far:k=n+1→c=0
 eq:fval B9 O N+B9 ^ (i+k) * c=P+B9 ^ i * (d * fval B9 (cutD E n) k)
theorem Mul9.drew {w wr:World} {N i n d P k c:Nat} {E O:Nat→Nat} (h:Mul9 w N i n d P E k c O wr):Mul9 w N i n d P E k c O wr.drew :=
 ⟨h.arr.drew,h.below.drew,h.dig,h.zero,h.carry,h.len,h.far,h.eq⟩
theorem wrapI {n:Int} (h1 : -9223372036854775808≤n) (h2:n≤9223372036854775807):IntKind.i64.wrap n=n:=by
 simp [IntKind.wrap,IntKind.bits,IntKind.signed]; omega
theorem mul9_bound {d e:Nat} (hd:d<1000000000) (he:e<1000000000):d * e≤999999998000000001 :=
 Nat.mul_le_mul (show d≤999999999 by omega) (show e≤999999999 by omega)
theorem Mul9.step {w wr:World} {N i n d P k c e o:Nat} {E O:Nat→Nat} (h:Mul9 w N i n d P E k c O wr) (hk:k≤n) (hN:i+n<N) (hd:d<1000000000) (he:e=cutD E n k) (he9:e<1000000000) (ho:o=O (i+k)) {z:Value}
  (hz:z=.int .u32 (((o+d * e+c) % 1000000000:Nat):Int)) :
  Mul9 w N i n d P E (k+1) ((o+d * e+c) / 1000000000) (putD O (i+k) ((o+d * e+c) % 1000000000)) (wr.setCell ⟨w.heap.size,i+k,none⟩ z):=by
 have ho9:=h.dig (i+k) (by omega)
 have hc:=h.carry
 have hde:=mul9_bound hd he9
 unfold B9 at ho9 hc
 rw [← ho] at ho9
 refine ⟨h.arr.set _ _ (by omega) hz,h.below.setCell (Nat.le_refl _) _,fun j hj => ?_,fun j h1 h2 h3 => ?_,by unfold B9; omega,by omega,fun hkn => ?_,?_⟩
 ·by_cases e:j=i+k
  ·subst e; rw [putD_same]; unfold B9; omega
  ·rw [putD_other _ _ _ _ e]; exact h.dig j hj
 ·rw [putD_other _ _ _ _ (by omega)]; exact h.zero j h1 (by omega) h3
 ·obtain rfl:k=n:=by omega
  have h1:e=0:=by rw [he]; simp [cutD]
  have h2:o=0:=by rw [ho]; exact h.zero _ (by omega) (by omega) (by omega)
  rw [h1,h2]; omega
 ·have h1:=fval_set (B:=B9) O N (i+k) ((o+d * e+c) % 1000000000) (by omega)
  have h2:=h.eq
  rw [fval_succ,← he]
  have h3:(o+d * e+c) % 1000000000+B9 * ((o+d * e+c) / 1000000000)=o+d * e+c:=Nat.mod_add_div _ _
  generalize (o+d * e+c) % 1000000000=r at *
  generalize (o+d * e+c) / 1000000000=q at *
  have h4:B9 ^ (i+k) * (r+B9 * q)=B9 ^ (i+k) * (o+d * e+c):=by rw [h3]
  have e1:B9 ^ (i+(k+1)) * q=B9 ^ (i+k) * (B9 * q):=by rw [← Nat.add_assoc,Nat.pow_succ,Nat.mul_assoc]
  have e2:B9 ^ i * (d * (fval B9 (cutD E n) k+B9 ^ k * e))=B9 ^ i * (d * fval B9 (cutD E n) k)+B9 ^ (i+k) * (d * e):=by
   rw [Nat.mul_add,Nat.mul_add,Nat.pow_add]
   congr 1
   rw [Nat.mul_assoc]
   congr 1
   rw [← Nat.mul_assoc,Nat.mul_comm d,Nat.mul_assoc]
  rw [e1,e2]
  simp only [Nat.mul_add] at h4
  change fval B9 (putD O (i+k) r) N+B9 ^ (i+k) * O (i+k)=fval B9 O N+B9 ^ (i+k) * r at h1
  rw [← ho] at h1
  omega
theorem Mul9.row {w wr:World} {N i n d X k:Nat} {E O:Nat→Nat} (h:Mul9 w N i n d (X * fval B9 E n) E k 0 O wr) (hk:n≤k) (D:Nat→Nat) (hX:fval B9 D i=X) (hd:D i=d) (d':Nat) :
  Mul9 w N (i+1) n d' (fval B9 D (i+1) * fval B9 E n) E 0 0 O wr:=by
 have hl:=h.len
 refine ⟨h.arr,h.below,h.dig,fun j h1 h2 h3 => h.zero j (by omega) (by omega) h3,by decide,by omega,fun _ => rfl,?_⟩
 have h2:=h.eq
 rw [cutD_val _ _ hk,Nat.mul_zero,Nat.add_zero] at h2
 rw [fval_succ,hX,hd,Nat.add_mul,fval_zero,Nat.mul_zero,Nat.mul_zero,Nat.mul_zero,Nat.add_zero,Nat.add_zero,h2,Nat.mul_assoc]
theorem Mul9.start (w:World) (N n d:Nat) (E:Nat→Nat) (t:TypeId):Mul9 w N 0 n d (0 * fval B9 E n) E 0 0 (fun _ => 0) (w.alloc (.cells (madeCells #[.int .u32 0] N) t)) :=
 ⟨Arr.made _ _ _,below_alloc _ _,fun _ _ => by decide,fun _ _ _ _ => rfl,by decide,by omega,fun _ => rfl,by simp [fval_const_zero,fval_zero]⟩
set_option maxHeartbeats 3200000 in
set_option maxRecDepth 100000 in
theorem times_any {X Y:Nat} {x y:Value} {w:World} (hx:IsN B9 w x X) (hy:IsN B9 w y Y) (sx:Sm X) (sy:Sm Y) :
  Calls Tryz.prog 215 #[x,y] w (RetN B9 (X * Y) w):=by
 obtain ⟨m,D,r1,s1⟩:=hx
 obtain ⟨n,E,r2,s2⟩:=hy
 have l1:=sx.len9 r1
 have l2:=sy.len9 r2
 have R1:=Lib.hid r1
 have R2:=Lib.hid r2
 have S1:=Lib.hid s1
 have S2:=Lib.hid s2
 obtain ⟨b,gb,cb,rfl,-⟩:=s2.shape
 have hsh:∃ a ga ca,x=.slice a m ca∧(0<m→a=some ⟨ga,0,none⟩)∧Cells w ga m D:=let ⟨a,g,c,h1,h2,_,_,h3⟩:=s1.shape; ⟨a,g,c,h1,h2,h3⟩
 obtain ⟨a,ga,ca,rfl,ha,hca⟩:=hsh
 have HA:=Lib.hid ha
 have HC:=Lib.hid hca
 have hmk:=run_makeD (t:=127) Tryz.underlying127 ((m:Int)+(n:Int)) (m+n) (by omega) (by omega)
 clear r1 r2 s1 s2 sx sy ha hca
 go_enter Tryz.func215,Tryz.ntmps215
 go_wp2
 go_loopw [6] (fun iv wr => ∃ (i:Nat) (O:Nat→Nat),i≤m∧iv=.int .i64 (i:Nat)∧Hid (Mul9 w (m+n) i n (D i) (fval B9 D i * fval B9 E n) E 0 0 O wr)) (fun iv _ => m - (intOf iv).toNat)
 case atStart => exact ⟨0,_,by omega,rfl,Mul9.start _ _ _ _ _ _⟩
 case round =>
  obtain ⟨i,O,hi,rfl,hI⟩:=hrel
  by_cases hlt:i<m
  ·obtain rfl:=HA.out (by omega)
   obtain ⟨d,hd⟩:∃ d,d=D i:=⟨_,rfl⟩
   have hd9:d<1000000000:=hd ▸ R1.out.dig i hlt
   have HX:Hid (∀ wr:World,Below w.heap.size w wr→wr.cell? ⟨ga,i,none⟩=some (.int .u32 (d:Nat))):=fun wr hb => by
    have:=HC.out.later hb (Nat.le_refl _) i hlt
    rw [hd]; exact this
   rw [← hd] at hI
   have HD:=Lib.hid hd
   clear hd
   go_wp2
   go_loopw [7,8] (fun cv kv wr => ∃ (k c:Nat) (O:Nat→Nat),kv=.int .i64 (k:Nat)∧cv=.int .u64 (c:Nat)∧Hid (Mul9 w (m+n) i n d (fval B9 D i * fval B9 E n) E k c O wr)) (fun _ kv _ => n+2 - (intOf kv).toNat)
   case atStart => exact ⟨0,0,O,rfl,rfl,hI⟩
   case round =>
    obtain ⟨k,c,O,rfl,rfl,hJ⟩:=hrel
    have hc1:c<1000000000:=hJ.out.carry
    have hk1:=hJ.out.len
    by_cases hgo:k<n ∨ 0<c
    ·have hkn:k≤n:=by
      rcases Nat.lt_or_ge n k with h | h
      ·have:=hJ.out.far (by omega); omega
      ·exact h
     have hgo2:k<n ∨ (n≤k∧0<c):=by omega
     clear hgo
     obtain ⟨o,ho⟩:∃ o,o=O (i+k):=⟨_,rfl⟩
     obtain ⟨e,he⟩:∃ e,e=cutD E n k:=⟨_,rfl⟩
     have ho9:o<1000000000:=ho ▸ hJ.out.dig (i+k) (by omega)
     have he9:e<1000000000:=he ▸ cutD_lt (B:=B9) (by decide) R2.out.dig k
     have hp1:(d:Int) * (e:Int)≤999999998000000001:=by have:=mul9_bound hd9 he9; rw [← Int.natCast_mul]; omega
     have hp2:0≤(d:Int) * (e:Int):=by rw [← Int.natCast_mul]; omega
     have C2:=Lib.hid (digit_any k (S2.out.later hJ.out.below.drew (Nat.le_refl _)) R2.out.dig (by omega) (by omega))
     rw [← he] at C2
     have hco:wr.cell? ⟨w.heap.size,i+k,none⟩=some (.int .u32 (o:Nat)):=by rw [ho]; exact hJ.out.arr.cell (i+k) (by omega)
     have hcx:=HX.out wr hJ.out.below
     have hfr:wr.frozen? ⟨w.heap.size,i+k,none⟩=false:=hJ.out.arr.free (i+k)
     have hst:Hid (∀ z:Value,z=.int .u32 (((o+d * e+c) % 1000000000:Nat):Int)→Mul9 w (m+n) i n d (fval B9 D i * fval B9 E n) E (k+1) ((o+d * e+c) / 1000000000) (putD O (i+k) ((o+d * e+c) % 1000000000)) (wr.drew.setCell ⟨w.heap.size,i+k,none⟩ z)) :=
      fun z hz => hJ.out.drew.step hkn (by omega) hd9 he he9 ho hz
     have KK:Hid (wr.drew.cell? ⟨w.heap.size,i+k,none⟩=some (.int .u32 (o:Nat))∧wr.drew.cell? ⟨ga,i,none⟩=some (.int .u32 (d:Nat))):=⟨hco,hcx⟩
     have b1:(0:Int)≤(i:Int)+(k:Int):=by omega
     have b2:(i:Int)+(k:Int)<(m:Int)+(n:Int):=by omega
     have b3:((i:Int)+(k:Int)).toNat=i+k:=by omega
     have b6:IntKind.i64.wrap ((i:Int)+(k:Int))=(i:Int)+(k:Int):=wrapI (by omega) (by omega)
     have b4:(0:Int)≤(i:Int):=by omega
     have b5:(i:Int)<(m:Int):=by omega
     clear ho he
     rcases hgo2 with h1 | ⟨h1,h2⟩
     all_goals
      go_wp2_with fail
      go_region_held3 (fun w' => w'.cell? ⟨w.heap.size,i+k,none⟩=some (.int .u32 (o:Nat))∧w'.cell? ⟨ga,i,none⟩=some (.int .u32 (d:Nat)))
       (exact KK.out)
       (first | (refine C2.out.mono ?_; rintro e2 w2 ⟨rfl,rfl⟩))
      clear b1 b2 b3 b4 b5 b6
      go_wp2
      refine ⟨⟨k+1,_,_,by go_num,?_,hst.out _ ?_⟩,by show _<_; simp [intOf]; omega⟩
      ·go_num
      ·go_num
    ·obtain rfl:c=0:=by omega
     have h1:n≤k:=by omega
     have hst:=Lib.hid (hJ.out.row h1 D rfl HD.out.symm (D (i+1)))
     clear hgo
     go_wp2
     exact ⟨⟨i+1,_,by omega,by go_num,hst.out⟩,by show _<_; simp [intOf]; omega⟩
  ·obtain rfl:i=m:=by omega
   have hval:Hid (fval B9 O (i+n)=X * Y):=by
    show _=_
    have h1:=hI.out.eq
    rw [fval_zero,Nat.mul_zero,Nat.mul_zero,Nat.mul_zero,Nat.add_zero,Nat.add_zero,R1.out.eq,R2.out.eq] at h1
    exact h1
   go_wp2_with fail
   refine (rtrim_any (n:=i+n) (D:=O) (.inr ⟨_,_,rfl,by omega,by omega,hI.out.arr.cell⟩)).mono ?_
   rintro e w' h
   obtain ⟨v,rfl,hv,rfl⟩:=h.num hI.out.dig
   rw [hval.out] at hv
   have hv:=Lib.hid hv
   rename_i hv'
   clear hv'
   go_wp2
   go_ret
   exact ⟨_,rfl,hv.out,hI.out.below⟩
theorem short_val {D:Nat→Nat} {m X:Nat} (r:Rep B9 D m X) (hm:m≤2):cutD D m 0+1000000000 * cutD D m 1=X:=by
 have h1:=cutD_val B9 D (n:=m) (m:=2) hm
 rw [r.eq,fval_succ,fval_succ,fval_zero,Nat.pow_zero,Nat.pow_one,Nat.zero_add,Nat.one_mul] at h1
 exact h1
theorem rshort_any {X:Nat} {x:Value} {w:World} (hx:IsN B9 w x X) (hX:X<1000000000000000000) :
  Calls Tryz.prog 213 #[x] w fun e w' => e=.returned (.int .u64 (X:Nat))∧w=w':=by
 obtain ⟨m,D,r1,s1⟩:=hx
 have l1:m≤2:=r1.len_le (k:=2) (by decide) hX
 have C1:=Lib.hid (digit_any 0 s1 r1.dig (by omega) (by omega))
 have C2:=Lib.hid (digit_any 1 s1 r1.dig (by omega) (by omega))
 obtain ⟨d,hd⟩:∃ d,d=cutD D m 0:=⟨_,rfl⟩
 obtain ⟨e,he⟩:∃ e,e=cutD D m 1:=⟨_,rfl⟩
 have hd9:d<1000000000:=hd ▸ cutD_lt (B:=B9) (by decide) r1.dig 0
 have he9:e<1000000000:=he ▸ cutD_lt (B:=B9) (by decide) r1.dig 1
 have hval:Hid (d+1000000000 * e=X):=by
  show _=_
  rw [hd,he]; exact short_val r1 l1
 rw [← hd] at C1
 rw [← he] at C2
 clear r1 s1 hd he hX l1
 go_enter Tryz.func213,Tryz.ntmps213
 go_wp2_with fail
 refine C1.out.mono ?_
 rintro e1 w1 ⟨rfl,rfl⟩
 go_wp2_with fail
 refine C2.out.mono ?_
 rintro e1 w1 ⟨rfl,rfl⟩
 go_wp2
 go_ret
 exact ⟨ret_int (by have:=hval.out; omega),rfl⟩
theorem rcmp_ne (a b:Option Addr) (m n cm cn:Nat) (w:World) (h:m ≠ n) :
  Calls Tryz.prog 129 #[.slice a m cm,.slice b n cn] w fun e w' => e=.returned (.int .i64 (if m<n then -1 else 1))∧w=w':=by
 have hb:((m:Int) != n)=true:=by rw [bne_iff_ne]; omega
 rcases Nat.lt_or_gt_of_ne h with h1 | h1
 ·rw [if_pos h1]
  go_enter Tryz.func129,Tryz.ntmps129
  go_wp2
  go_ret
  exact ⟨rfl,rfl⟩
 ·rw [if_neg (by omega)]
  go_enter Tryz.func129,Tryz.ntmps129
  go_wp2
  go_ret
  exact ⟨rfl,rfl⟩
theorem rcmp_zero (a b:Option Addr) (cm cn:Nat) (w:World) :
  Calls Tryz.prog 129 #[.slice a 0 cm,.slice b 0 cn] w fun e w' => e=.returned (.int .i64 0)∧w=w':=by
 go_enter Tryz.func129,Tryz.ntmps129
 go_wp2
 refine wp_loop_rounds 1 ?_
 rw [rounds_succ]
 go_wp2
 go_ret
 exact ⟨rfl,rfl⟩
set_option maxHeartbeats 1600000 in
theorem rcmp_eq (g g' n cm cn:Nat) (D E:Nat→Nat) (w:World) (hn:0<n) (h1:n≤9223372036854775807) (hD:∀ i,i<n→D i<B9) (hE:∀ i,i<n→E i<B9)
  (c1:Cells w g n D) (c2:Cells w g' n E) :
  Calls Tryz.prog 129 #[.slice (some ⟨g,0,none⟩) n cm,.slice (some ⟨g',0,none⟩) n cn] w fun e w' => e=.returned (.int .i64 (cmpN (fval B9 D n) (fval B9 E n)))∧∃ k,w'=w.drewN k:=by
 have hb:((n:Int) != n)=false:=by simp
 go_enter Tryz.func129,Tryz.ntmps129
 go_wp2
 go_loopw [5] (fun v wr => ∃ k:Nat,k≤n∧v=.int .i64 ((k:Int) - 1)∧Hid (∀ j,k≤j→j<n→D j=E j)∧∃ q,wr=w.drewN q) (fun v _ => (intOf v+1).toNat)
 case atStart => exact ⟨n,Nat.le_refl _,rfl,fun j h1 h2 => by omega,0,rfl⟩
 case round =>
  obtain ⟨k,hk,rfl,he,q,rfl⟩:=hrel
  by_cases h0:0<k
  ·obtain ⟨m,rfl⟩:∃ m,k=m+1:=⟨k - 1,by omega⟩
   have e1:(((m+1:Nat):Int) - 1)=(m:Int):=by omega
   rw [e1]
   have hcx:=c1 m (by omega)
   have hcy:=c2 m (by omega)
   by_cases hne:D m=E m
   ·have hb1:¬ ((D m:Int)<(E m:Int)):=by omega
    have hb2:¬ ((E m:Int)<(D m:Int)):=by omega
    have HN:=Lib.hid hne
    clear c1 c2 hD hE hne
    go_wp2
    go_quiet (fail)
    go_wp2
    go_quiet (fail)
    go_wp2
    go_roundw
    case rel => exact ⟨m,by omega,rfl,fun j h1 h2 => by
     by_cases e:j=m
     ·subst e; exact HN.out
     ·exact he.out j (by omega) h2,_,rfl⟩
    case measure => simp [intOf]
   ·rcases Nat.lt_or_gt_of_ne hne with hl | hl
    ·have HF:Hid (cmpN (fval B9 D n) (fval B9 E n) = -1):=by
      have:=fval_lt_of_digit hD m (by omega) (fun k h1 h2 => he.out k (by omega) h2) hl
      show cmpN _ _ = -1
      rw [cmpN,if_pos this]
     have hl2:(D m:Int)<(E m:Int):=by omega
     clear c1 c2 hD hE hne hl
     go_wp2
     go_quiet (fail)
     go_wp2
     go_ret
     exact ⟨ret_int HF.out.symm,_,by first | rfl | rw [World.drewN_drewN,World.drewN_drewN] | rw [World.drewN_drewN]⟩
    ·have HF:Hid (cmpN (fval B9 D n) (fval B9 E n)=1):=by
      have:=fval_lt_of_digit hE m (by omega) (fun k h1 h2 => (he.out k (by omega) h2).symm) hl
      show cmpN _ _=1
      rw [cmpN,if_neg (by omega),if_pos this]
     have hl2:(E m:Int)<(D m:Int):=by omega
     have hl3:¬ ((D m:Int)<(E m:Int)):=by omega
     clear c1 c2 hD hE hne hl
     go_wp2
     go_quiet (fail)
     go_wp2
     go_quiet (fail)
     go_wp2
     go_ret
     exact ⟨ret_int HF.out.symm,_,by first | rfl | rw [World.drewN_drewN,World.drewN_drewN] | rw [World.drewN_drewN]⟩
  ·obtain rfl:k=0:=by omega
   have HF:Hid (cmpN (fval B9 D n) (fval B9 E n)=0):=by
    have:fval B9 D n=fval B9 E n:=fval_congr n (fun i hi => he.out i (by omega) hi)
    show cmpN _ _=0
    rw [cmpN,this]; simp
   clear c1 c2 hD hE
   go_wp2
   go_ret
   exact ⟨ret_int HF.out.symm,_,by first | rfl | rw [World.drewN_drewN,World.drewN_drewN] | rw [World.drewN_drewN]⟩
theorem rcmp_any {X Y:Nat} {x y:Value} {w:World} (hx:IsN B9 w x X) (hy:IsN B9 w y Y) :
  Calls Tryz.prog 129 #[x,y] w (RetQ (.int .i64 (cmpN X Y)) w):=by
 obtain ⟨m,D,r1,s1⟩:=hx
 obtain ⟨n,E,r2,s2⟩:=hy
 obtain ⟨a,g,c,rfl,a1,a2,a3,a4⟩:=s1.shape
 obtain ⟨b,g',d,rfl,b1,b2,b3,b4⟩:=s2.shape
 by_cases h:m=n
 ·subst h
  rw [← r1.eq,← r2.eq]
  by_cases h0:m=0
  ·subst h0
   exact (rcmp_zero a b c d w).mono fun e w' ⟨he,hw⟩ => ⟨he,0,hw.symm⟩
  ·obtain rfl:=a1 (by omega)
   obtain rfl:=b1 (by omega)
   exact rcmp_eq g g' m c d D E w (by omega) (by omega) r1.dig r2.dig a4 b4
 ·refine (rcmp_ne a b m n c d w h).mono fun e w' ⟨he,hw⟩ => ⟨?_,0,hw.symm⟩
  rw [he,cmpN]
  by_cases h1:m<n
  ·rw [if_pos h1,if_pos (r1.lt_of_len (by decide) r2 h1)]
  ·have:=r2.lt_of_len (by decide) r1 (show n<m by omega)
   rw [if_neg h1,if_neg (by omega),if_pos this]
def consD (d:Nat) (E:Nat→Nat):Nat→Nat:=fun i => if i=0 then d else E (i - 1)
theorem rowD_cons (d:Nat) (E:Nat→Nat) (r:Nat):Value.int .u32 (d:Nat) :: rowD E r=rowD (consD d E) (1+r):=by
 unfold rowD
 rw [Nat.add_comm,List.range_succ_eq_map,List.map_cons,List.map_map]
 rfl
theorem consD_val (B d:Nat) (E:Nat→Nat) (r:Nat):fval B (consD d E) (1+r)=d+B * fval B E r:=by
 rw [Nat.add_comm,fval_first]
 rfl
set_option maxRecDepth 100000 in
theorem wpList_append_rest {ops:Array Oper} {rest:List Oper} {o:Oper} {a:Act} {Q:Exit→Act→World→Prop} {w1:World} (hgd:o.guard=none) (s x:Operand)
  (ho:o.op=.call { callee:=.builtin .append,args:=#[s,x],argTypes:=#[127,127] })
  (E:Nat→Nat) (r d:Nat) (z v:Value) (hv:Sl w1 v r E) (hz:z=.int .u32 (d:Nat)) (hs:a.eval s=.slice (some ⟨w1.heap.size,0,none⟩) 1 1) (hx:a.eval x=v) (hr:r≤1000000000)
  (h:∀ g cap w',w1.heap.size≤g→Cells w' g (1+r) (consD d E)→1+r≤cap→cap≤9223372036854775807→Below w1.heap.size w1 w'→wpList Tryz.prog ops Q rest (a.put o.dst (.slice (some ⟨g,0,none⟩) (1+r) cap)) w') :
  wpList Tryz.prog ops Q (o :: rest) a (w1.alloc (.cells #[z] 169)):=by
 obtain ⟨i0,hi,hz0,hz1,hz2⟩:=info_parts info135
 subst hz
 have hb:=below_alloc w1 (.cells #[Value.int .u32 (d:Nat)] 169)
 rcases hv with ⟨rfl,rfl⟩ | ⟨g',cap',rfl,h1,h2,h3⟩
 ·refine wpList_plain hgd fun _ hK => ?_
  have hrun:=run_append_nothing (P:=Tryz.prog) (w1.alloc (.cells #[Value.int .u32 (d:Nat)] 169)) 127 127 o.type 169 i0 Tryz.underlying127 hi (some ⟨w1.heap.size,0,none⟩) 1 1 (Nat.le_refl _) (.slice none 0 0) (Src.ofNil _ Tryz.underlying127 0)
  unfold Oper.wp execOp
  simp only [ho,resolve,invoke,builtin,Sem.run_bind,Sem.run_pure,Result.andThen_ok,List.map_toArray,List.map_cons,List.map_nil,hs,hx,hrun]
  refine hK _ _ (h w1.heap.size 1 _ (Nat.le_refl _) ?_ (by omega) (by omega) hb)
  intro i hi
  obtain rfl:i=0:=by omega
  rw [World.cell?_alloc_at _ _ _ _ rfl]; rfl
 ·refine wpList_append_own _ hgd s x 127 ho w1.heap.size 169 i0 (.int .u32 0) 1 4 Tryz.underlying127 hi hz0 hz1 hz2 rfl (by decide) _ 1 [.int .u32 (d:Nat)] hs ?_ ⟨g',0,none⟩ r cap' (rowD E r) hx ?_ ?_ ?_ ?_ ?_ ?_ ?_
  ·exact ⟨rfl,.inr ⟨w1.heap.size,1,#[.int .u32 (d:Nat)],rfl,Nat.le_refl _,heap_alloc_new w1 _,Nat.le_refl _,by unfold maxLen; omega,rfl,rfl⟩⟩
  ·rw [rowD_len,Nat.mul_one]
  ·intro j u hj
   have hjr:j<r:=by
    have:=(List.getElem?_eq_some_iff.1 hj).1
    rwa [rowD_len] at this
   rw [rowD_get hjr] at hj
   injection hj with hj
   subst hj
   have:=h3.later hb (Nat.le_refl _) j hjr
   rw [addr0]; exact this
  ·intro u hu
   unfold rowD at hu
   obtain ⟨_,_,rfl⟩:=List.mem_map.1 hu
   rfl
  ·unfold maxLen; omega
  ·omega
  ·simp
  intro v' w2 hown2 hgrow _
  obtain ⟨g,cap,rfl,hg1,_⟩:=hown2.form (by omega)
  rw [show [Value.int .u32 (d:Nat)] ++ rowD E r=rowD (consD d E) (1+r) from rowD_cons d E r] at hown2
  rcases own_sl hown2 with ⟨h9,_⟩ | ⟨g9,cap9,h9,k1,k2,k3⟩
  ·simp at h9
  ·simp only [Value.slice.injEq,Option.some.injEq,Addr.mk.injEq,true_and,and_true] at h9
   obtain ⟨rfl,rfl⟩:=h9
   refine h g cap w2 hg1 k3 k1 k2 (hb.grown hgrow (by simp) (fun k hk => ?_))
   simp [Value.ownBlock] at hk; omega
theorem wrapU (n:Int):IntKind.u64.wrap n=n % 18446744073709551616:=by simp [IntKind.wrap,IntKind.bits,IntKind.signed]
def RetQ2 (B Q R:Nat) (w:World) (e:Ending) (w':World):Prop:=∃ u v,e=.returned (.tuple #[u,v])∧IsN B w' u Q∧IsN B w' v R∧Below w.heap.size w w'
theorem Rep.len2 {X m:Nat} {D:Nat→Nat} (h:Rep B9 D m X) (hm:m≤2):X<1000000000000000000 :=
 Nat.lt_of_lt_of_le h.lt (Nat.le_trans (Nat.pow_le_pow_right (by decide) hm) (by decide))
set_option maxHeartbeats 8000000 in
set_option maxRecDepth 100000 in
theorem over_short {X Y m n ca cb:Nat} {a b:Option Addr} {w:World} (hx:IsN B9 w (.slice a m ca) X) (hy:IsN B9 w (.slice b n cb) Y) (h1:m≤2) (h2:n≤2) (hX:X<1000000000000000000) (hY:Y<1000000000000000000) (h0:0<Y) :
  Calls Tryz.prog 188 #[.slice a m ca,.slice b n cb] w (RetQ2 B9 (X / Y) (X % Y) w):=by
 have A1:=Lib.hid (fun w1 (h:Below w.heap.size w w1) => rshort_any (hx.later h) hX)
 have A2:=Lib.hid (fun w1 (h:Below w.heap.size w w1) => rshort_any (hy.later h) hY)
 have q1:X / Y<18446744073709551616:=by have:=Nat.div_le_self X Y; omega
 have q2:X % Y<18446744073709551616:=by have:=Nat.mod_le X Y; omega
 have N1:Hid (∀ w1,Calls Tryz.prog 130 #[.int .u64 ((X:Int) / (Y:Int))] w1 (RetN B9 (X / Y) w1)):=fun w1 => by
  have h:=natural_any (X / Y) q1 w1
  rwa [Int.natCast_ediv] at h
 have N2:Hid (∀ w1,Calls Tryz.prog 130 #[.int .u64 ((X:Int) % (Y:Int))] w1 (RetN B9 (X % Y) w1)):=fun w1 => by
  have h:=natural_any (X % Y) q2 w1
  rwa [Int.natCast_emod] at h
 have HY:((Y:Int) == 0)=false:=by rw [beq_eq_false_iff_ne]; omega
 have hw1:IntKind.u64.wrap ((X:Int) / (Y:Int))=(X:Int) / (Y:Int):=by rw [wrapU,← Int.natCast_ediv]; exact Int.emod_eq_of_lt (Int.natCast_nonneg _) (Int.ofNat_lt.2 q1)
 have hw2:IntKind.u64.wrap ((X:Int) % (Y:Int))=(X:Int) % (Y:Int):=by rw [wrapU,← Int.natCast_emod]; exact Int.emod_eq_of_lt (Int.natCast_nonneg _) (Int.ofNat_lt.2 q2)
 clear hx hy q1 q2 hX hY HY
 go_enter Tryz.func188,Tryz.ntmps188
 go_wp2_with fail
 refine (A1.out _ (Below.refl _ _)).mono ?_
 rintro e1 w1 ⟨rfl,rfl⟩
 go_wp2_with fail
 refine (A2.out _ (Below.refl _ _)).mono ?_
 rintro e1 w1 ⟨rfl,rfl⟩
 go_wp2_with fail
 refine (N1.out _).mono ?_
 rintro e1 w1 ⟨v1,rfl,hv1,hb1⟩
 have V1:=Lib.hid hv1
 have HB1:=Lib.hid hb1
 clear hv1 hb1
 go_wp2_with fail
 refine (A1.out _ HB1.out).mono ?_
 rintro e2 w2 ⟨rfl,rfl⟩
 go_wp2_with fail
 refine (A2.out _ HB1.out).mono ?_
 rintro e2 w2 ⟨rfl,rfl⟩
 go_wp2_with fail
 refine (N2.out _).mono ?_
 rintro e2 w2 ⟨v2,rfl,hv2,hb2⟩
 have V2:=Lib.hid hv2
 have HB2:=Lib.hid hb2
 clear hv2 hb2
 go_wp2
 go_ret2
 exact ⟨_,_,rfl,V1.out.later HB2.out,V2.out,below_keep HB1.out HB2.out⟩
structure Over9 (w:World) (m:Nat) (D:Nat→Nat) (Y k R:Nat) (O:Nat→Nat) (rv:Value) (wr:World):Prop where
 arr:Arr wr w.heap.size m O
 below:Below w.heap.size w wr
 dig:∀ i,k≤i→i<m→O i<B9
 rest:IsN B9 wr rv R
 lt:R<Y
 eq:hi B9 D k m=hi B9 O k m * Y+R
structure Half9 (Y R lo hi:Nat):Prop where
 le:lo≤hi
 top:hi≤999999999
 low:Y * lo≤R
 high:R<Y * (hi+1)
theorem Half9.up {Y R lo hi:Nat} (h:Half9 Y R lo hi) (hlt:lo<hi) (hle:Y * ((lo+hi+1) / 2)≤R):Half9 Y R ((lo+hi+1) / 2) hi :=
 ⟨by omega,h.top,hle,h.high⟩
theorem Half9.down {Y R lo hi:Nat} (h:Half9 Y R lo hi) (hlt:lo<hi) (hle:R<Y * ((lo+hi+1) / 2)):Half9 Y R lo ((lo+hi+1) / 2 - 1):=by
 have h1:=h.top
 refine ⟨by omega,by omega,h.low,?_⟩
 rw [show (lo+hi+1) / 2 - 1+1=(lo+hi+1) / 2 from by omega]; exact hle
theorem Half9.start {x Y R:Nat} (hR:R<Y) (hx:x<B9):Half9 Y (x+B9 * R) 0 999999999:=by
 refine ⟨by omega,by omega,by simp,?_⟩
 have:B9 * (R+1)≤B9 * Y:=Nat.mul_le_mul_left _ hR
 rw [Nat.mul_comm Y]
 unfold B9 at *; omega
theorem Half9.done {Y R lo:Nat} (h:Half9 Y R lo lo):R - Y * lo<Y:=by
 have h1:=h.low
 have h2:=h.high
 rw [Nat.mul_add] at h2; omega
theorem Over9.step {w wr w':World} {m Y k R lo x:Nat} {D O:Nat→Nat} {rv rv':Value} (h:Over9 w m D Y (k+1) R O rv wr) (hk:k<m) (hx:x=D k) (hf:Half9 Y (x+B9 * R) lo lo)
  (harr:Arr w' w.heap.size m (putD O k lo)) (hb:Below w.heap.size w w') (hr:IsN B9 w' rv' (x+B9 * R - Y * lo)):Over9 w m D Y k (x+B9 * R - Y * lo) (putD O k lo) rv' w':=by
 have htop:=hf.top
 refine ⟨harr,hb,fun i h1 h2 => ?_,hr,hf.done,?_⟩
 ·by_cases e:i=k
  ·subst e; rw [putD_same]; unfold B9; omega
  ·rw [putD_other _ _ _ _ e]; exact h.dig i (by omega) h2
 ·rw [hi_step _ _ hk,hi_step _ _ hk,putD_same,hi_congr (D:=putD O k lo) (E:=O) (fun i h1 h2 => putD_other _ _ _ _ (by omega)),h.eq,← hx]
  have h1:=hf.low
  rw [Nat.mul_add,Nat.add_mul,Nat.mul_assoc,Nat.mul_comm lo Y]
  omega
theorem Sl.setOther {w:World} {v:Value} {n:Nat} {D:Nat→Nat} {g cap:Nat} (hv:v=.slice (some ⟨g,0,none⟩) n cap) (h:Sl w v n D) {p:Addr} (hp:p.block ≠ g) (z:Value):Sl (w.setCell p z) v n D:=by
 subst hv
 rcases h with ⟨h1,_⟩ | ⟨g',cap',h1,h2,h3,h4⟩
 ·simp at h1
 ·simp only [Value.slice.injEq,Option.some.injEq,Addr.mk.injEq,true_and,and_true] at h1
  obtain ⟨rfl,rfl⟩:=h1
  refine .inr ⟨g,cap,rfl,h2,h3,fun i hi => ?_⟩
  rw [World.cell?_setCell_other w p ⟨g,i,none⟩ _ (fun h' => hp (by rw [h']))]
  exact h4 i hi
theorem Sm.small {n:Nat} (h:n≤999999999):Sm n:=Sm.of_bits (k:=30) (by omega) (by omega)
set_option maxHeartbeats 6400000 in
set_option maxRecDepth 100000 in
theorem over_long {X Y m n ca cb:Nat} {a b:Option Addr} {w:World} {D:Nat→Nat} (r1:Rep B9 D m X) (s1:Sl w (.slice a m ca) m D) (hy:IsN B9 w (.slice b n cb) Y) (sx:Sm X) (sxy:Sm (X+Y * 1000000000)) (hmn:2<m ∨ 2<n) (h0:0<Y) :
  Calls Tryz.prog 188 #[.slice a m ca,.slice b n cb] w (RetQ2 B9 (X / Y) (X % Y) w):=by
 have l1:=sx.len9 r1
 have R1:=Lib.hid r1
 have S1:=Lib.hid s1
 have HY:=Lib.hid hy
 have SY:Hid (∀ k,k≤999999999→Sm (Y * k)):=fun k hk => sxy.mono (Nat.le_trans (Nat.mul_le_mul_left _ (show k≤1000000000 by omega)) (Nat.le_add_left _ _))
 have SY1:Hid (Sm Y):=sxy.mono (Nat.le_trans (Nat.le_mul_of_pos_right Y (by decide:0<1000000000)) (Nat.le_add_left _ _))
 have SR:Hid (∀ R x,R<Y→x<B9→Sm (x+B9 * R)):=fun R x h1 h2 => sxy.mono (by
  have:B9 * (R+1)≤B9 * Y:=Nat.mul_le_mul_left _ h1
  rw [Nat.mul_comm Y]; unfold B9 at *; omega)
 have hsh:∃ ga,(0<m→a=some ⟨ga,0,none⟩)∧Cells w ga m D:=by
  obtain ⟨a',g,c,h1,h2,_,_,h3⟩:=s1.shape
  injection h1 with h1 _ _
  subst h1
  exact ⟨g,h2,h3⟩
 obtain ⟨ga,ha,hca⟩:=hsh
 have HA:=Lib.hid ha
 have HC:=Lib.hid hca
 have H0:=Lib.hid h0
 have hmk:=run_makeD (t:=127) Tryz.underlying127 (m:Int) m (by omega) (by omega)
 have hmn2:2<m ∨ (m≤2∧2<n):=by omega
 clear r1 s1 hy sx sxy ha hca h0 hmn
 rcases hmn2 with hmn | ⟨hmn,hmn'⟩
 all_goals
  go_enter Tryz.func188,Tryz.ntmps188
  go_wp2
  go_loopw [7,8] (fun rv iv wr => ∃ (k R:Nat) (O:Nat→Nat),k≤m∧iv=.int .i64 ((k:Int) - 1)∧Hid (Over9 w m D Y k R O rv wr)) (fun _ iv _ => (intOf iv+1).toNat)
  case atStart => exact ⟨m,0,_,by omega,rfl,Arr.made _ _ _,below_alloc _ _,fun i h1 h2 => by omega,IsN.nil _ _,H0.out,by rw [hi_top,hi_top]; simp⟩
  case round =>
   obtain ⟨k,R,O,hk,rfl,hI⟩:=hrel
   by_cases hlt:0<k
   ·obtain ⟨j,rfl⟩:∃ j,k=j+1:=⟨k - 1,by omega⟩
    have e1:(((j+1:Nat):Int) - 1)=(j:Int):=by omega
    rw [e1]
    clear e1
    obtain rfl:=HA.out (by omega)
    obtain ⟨x,hx⟩:∃ x,x=D j:=⟨_,rfl⟩
    have hx9:x<1000000000:=hx ▸ R1.out.dig j (by omega)
    have hcx:wr.cell? ⟨ga,j,none⟩=some (.int .u32 (x:Nat)):=by rw [hx]; exact HC.out.later hI.out.below (Nat.le_refl _) j (by omega)
    obtain ⟨r,E,rr,rs⟩:=hI.out.rest
    have hr9:r≤2000000:=((SR.out R 0 hI.out.lt (by decide)).mono (by unfold B9; omega)).len9 rr
    have RR:=Lib.hid rr
    have RS:=Lib.hid rs
    have HX:=Lib.hid hx
    obtain ⟨a9,g9,c9,rfl,-⟩:=rs.shape
    clear hx rr rs
    go_wp2_with (at_builtin; refine wpList_append_rest rfl _ _ rfl E r x _ _ RS.out ?z (by rfl) (by rfl) (by omega) ?_)
    case z => rfl
    intro g cap w2 hg hcell hc1 hc2 hb2
    have hdig:Hid (∀ i,i<1+r→consD x E i<B9):=fun i hi => by
     unfold consD; split
     ·exact hx9
     ·exact RR.out.dig _ (by omega)
    have HB2:=Lib.hid (below_keep (hI.out.below) hb2)
    have HB2':=Lib.hid hb2
    have HG:=Lib.hid hg
    have HCC:=Lib.hid hcell
    clear hb2 hg hcell
    go_wp2_with fail
    refine (rtrim_pos g (1+r) cap (consD x E) w2 hc1 hc2 HCC.out).mono ?_
    rintro e w3 ⟨rfl,rfl⟩
    have VR:Hid (IsN B9 w2 (.slice (some ⟨g,0,none⟩) (tlen (consD x E) (1+r)) cap) (x+B9 * R)):=by
     have ht:=tlen_le (consD x E) (1+r)
     refine ⟨_,consD x E,?_,.inr ⟨g,cap,rfl,by omega,hc2,fun i hi => HCC.out i (by omega)⟩⟩
     have:=Rep.trim (B:=B9) (D:=consD x E) (n:=1+r) hdig.out
     rw [consD_val,RR.out.eq] at this
     exact this
    obtain ⟨t,ht⟩:∃ t,t=tlen (consD x E) (1+r):=⟨_,rfl⟩
    rw [← ht] at VR ⊢
    clear ht
    obtain ⟨R',hR'⟩:∃ R',R'=x+B9 * R:=⟨_,rfl⟩
    rw [← hR'] at VR
    have HR':=Lib.hid hR'
    have HST:Hid (Half9 Y R' 0 999999999):=hR' ▸ Half9.start hI.out.lt hx9
    clear hR'
    have hgw:w.heap.size<wr.heap.size:=by
     have:=hI.out.arr.cell j (by omega)
     exact World.block_lt_of_cell? wr _ this
    have HGN:Hid (g ≠ w.heap.size):=by show _ ≠ _; have:=HG.out; omega
    have HARR:=Lib.hid (hI.out.arr.later HB2'.out hgw)
    have HGW2:Hid (w.heap.size<w2.heap.size):=Nat.lt_of_lt_of_le hgw HB2'.out.size
    have HLE:=Lib.hid hI.out.lt
    have HII:Hid (∀ lo w' rv',Half9 Y (x+B9 * R) lo lo→Arr w' w.heap.size m (putD O j lo)→Below w.heap.size w w'→IsN B9 w' rv' (x+B9 * R - Y * lo)→Over9 w m D Y j (x+B9 * R - Y * lo) (putD O j lo) rv' w'):=fun lo w' rv' h1 h2 h3 h4 => hI.out.step (by omega) HX.out h1 h2 h3 h4
    clear hgw
    go_wp2
    go_loopw [9,10] (fun lv hv wy => ∃ lo hi:Nat,lv=.int .u64 (lo:Nat)∧hv=.int .u64 (hi:Nat)∧Hid (Half9 Y R' lo hi)∧Hid (Below w2.heap.size w2 wy)) (fun lv hv _ => (intOf hv - intOf lv).toNat)
    case atStart => exact ⟨0,999999999,rfl,rfl,HST.out,Below.refl _ _⟩
    case round =>
     obtain ⟨lo,hi,rfl,rfl,hH,hby⟩:=hrel
     have hle:=hH.out.le
     have htop:=hH.out.top
     by_cases hgo:lo<hi
     ·obtain ⟨mid,hmid⟩:∃ mid,mid=(lo+hi+1) / 2:=⟨_,rfl⟩
      have hmid1:lo<mid:=by omega
      have hmid2:mid≤hi:=by omega
      have hmidI:((lo:Int)+(hi:Int)+1) / 2=(mid:Int):=by omega
      have HMI:=Lib.hid hmidI
      have C1:Hid (∀ w1,Calls Tryz.prog 130 #[.int .u64 (((lo:Int)+(hi:Int)+1) / 2)] w1 (RetN B9 mid w1)):=fun w1 => by
       have h:=natural_any mid (by omega) w1
       rwa [← hmidI] at h
      have C2:=Lib.hid (fun (w1:World) (v:Value) (hv:IsN B9 w1 v mid) (h:Below w.heap.size w w1) => times_any (HY.out.later h) hv SY1.out (Sm.small (n:=mid) (by omega)))
      have HMID:=Lib.hid hmid
      have HBY:=Lib.hid (below_keep HB2.out hby.out)
      have hgo':=Lib.hid hgo
      have HM1:=Lib.hid hmid1
      have HM2:=Lib.hid hmid2
      clear hmidI hmid hmid1 hmid2
      go_wp2_with fail
      refine (C1.out _).mono ?_
      rintro e3 w3 ⟨v3,rfl,hv3,hb3⟩
      have HB3:=Lib.hid (below_keep HBY.out hb3)
      have HD3:=Lib.hid (below_keep hby.out hb3)
      have V3:=Lib.hid hv3
      clear hv3 hb3
      go_wp2_with fail
      refine (C2.out _ _ V3.out HB3.out).mono ?_
      rintro e4 w4 ⟨v4,rfl,hv4,hb4⟩
      have HB4:=Lib.hid (below_keep HB3.out hb4)
      have HD4:=Lib.hid (below_keep HD3.out hb4)
      have C3:=Lib.hid (rcmp_any hv4 (VR.out.later HD4.out))
      clear hv4 hb4
      by_cases hcmp:Y * mid≤R'
      ·have hcm:cmpN (Y * mid) R'≤0:=by unfold cmpN; split <;> (try split) <;> omega
       obtain ⟨cm,hcm'⟩:∃ cm,cm=cmpN (Y * mid) R':=⟨_,rfl⟩
       rw [← hcm'] at hcm C3
       have HU:Hid (Half9 Y R' mid hi):=HMID.out ▸ hH.out.up hgo'.out (HMID.out ▸ hcmp)
       clear hcm' hcmp
       go_wp2_with fail
       refine C3.out.mono ?_
       rintro e5 w5 ⟨rfl,q,rfl⟩
       have HD5:=Lib.hid (below_keep HD4.out (below_drewN' _ q))
       go_wp2
       exact ⟨⟨mid,hi,by rw [HMI.out],rfl,HU.out,HD5.out⟩,by show _<_; have:=HMI.out; have:=HM1.out; have:=HM2.out; simp [intOf]; omega⟩
      ·have hcm:0<cmpN (Y * mid) R':=by unfold cmpN; rw [if_neg (by omega),if_pos (by omega)]; decide
       obtain ⟨cm,hcm'⟩:∃ cm,cm=cmpN (Y * mid) R':=⟨_,rfl⟩
       rw [← hcm'] at hcm C3
       have HU:Hid (Half9 Y R' lo (mid - 1)):=HMID.out ▸ hH.out.down hgo'.out (HMID.out ▸ (by omega))
       clear hcm' hcmp
       go_wp2_with fail
       refine C3.out.mono ?_
       rintro e5 w5 ⟨rfl,q,rfl⟩
       have HD5:=Lib.hid (below_keep HD4.out (below_drewN' _ q))
       go_wp2
       exact ⟨⟨lo,mid - 1,rfl,by have:=HMI.out; have:=HM1.out; refine congrArg (Value.int .u64) ?_; omega,HU.out,HD5.out⟩,by show _<_; have:=HMI.out; have:=HM1.out; have:=HM2.out; simp [intOf]; omega⟩
     ·obtain rfl:hi=lo:=by omega
      have HBY:=Lib.hid (below_keep HB2.out hby.out)
      have harr2:=HARR.out.later hby.out HGW2.out
      have ho:=harr2.cell j (by omega)
      have hf:=harr2.free j
      have HA2:Hid (∀ z,z=.int .u32 (hi:Nat)→Arr (wr.setCell ⟨w.heap.size,j,none⟩ z) w.heap.size m (putD O j hi)):=fun z hz => harr2.set j hi (by omega) hz
      have HBS:Hid (∀ z,Below w.heap.size w (wr.setCell ⟨w.heap.size,j,none⟩ z)):=fun z => HBY.out.setCell (Nat.le_refl _) z
      have VR2:Hid (∀ z,IsN B9 (wr.setCell ⟨w.heap.size,j,none⟩ z) (.slice (some ⟨g,0,none⟩) t cap) R'):=fun z => by
       obtain ⟨q,F,k1,k2⟩:=VR.out.later hby.out
       obtain ⟨_,_,_,k3,_⟩:=k2.shape
       injection k3 with _ k3 _
       subst k3
       exact ⟨_,F,k1,Sl.setOther rfl k2 (Ne.symm HGN.out) z⟩
      have C1:=Lib.hid (fun w1 => natural_any hi (by omega) w1)
      have C2:=Lib.hid (fun (w1:World) (v:Value) (hv:IsN B9 w1 v hi) (h:Below w.heap.size w w1) => times_any (HY.out.later h) hv SY1.out (Sm.small (n:=hi) (by omega)))
      have hsr:Sm R':=HR'.out ▸ SR.out R x HLE.out hx9
      have C3:=Lib.hid (fun (w1:World) (u v:Value) (hu:IsN B9 w1 u R') (hv:IsN B9 w1 v (Y * hi)) => minus_any hu hv hsr hH.out.low)
      clear harr2 hsr
      go_wp2_with fail
      refine (C1.out _).mono ?_
      rintro e3 w3 ⟨v3,rfl,hv3,hb3⟩
      have V3:=Lib.hid hv3
      have HB3:=Lib.hid hb3
      clear hv3 hb3
      go_wp2_with fail
      refine (C2.out _ _ V3.out (below_keep (HBS.out _) HB3.out)).mono ?_
      rintro e4 w4 ⟨v4,rfl,hv4,hb4⟩
      have V4:=Lib.hid hv4
      have HB4:=Lib.hid (below_keep HB3.out hb4)
      clear hv4 hb4
      go_wp2_with fail
      refine (C3.out _ _ _ ((VR2.out _).later HB4.out) V4.out).mono ?_
      rintro e5 w5 ⟨v5,rfl,hv5,hb5⟩
      have V5:=Lib.hid hv5
      have HB5:=Lib.hid (below_keep HB4.out hb5)
      clear hv5 hb5
      go_wp2
      refine ⟨⟨j,R' - Y * hi,putD O j hi,by omega,by go_num,?_⟩,by show _<_; simp [intOf]⟩
      show Over9 _ _ _ _ _ _ _ _ _
      have h5:=V5.out
      have h6:=hH.out
      have hst:=HR'.out
      subst hst
      refine HII.out _ _ _ h6 ?_ (below_keep (HBS.out _) HB5.out) h5
      refine (HA2.out _ ?_).later HB5.out ?_
      ·go_num
      ·exact World.block_lt_of_cell? _ _ (((HA2.out _ rfl).cell j (by omega)))
   ·obtain rfl:k=0:=by omega
    have hval:Hid (fval B9 O m=X / Y∧R=X % Y):=by
     have h1:=hI.out.eq
     have h2:=hI.out.lt
     rw [hi_zero,hi_zero,R1.out.eq] at h1
     rw [h1]
     exact ⟨by rw [Nat.mul_comm,Nat.mul_add_div H0.out,Nat.div_eq_of_lt h2]; rfl,by rw [Nat.mul_comm,Nat.mul_add_mod,Nat.mod_eq_of_lt h2]⟩
    go_wp2_with fail
    refine (rtrim_any (n:=m) (D:=O) (.inr ⟨_,_,rfl,by omega,by omega,hI.out.arr.cell⟩)).mono ?_
    rintro e w' h
    obtain ⟨v,rfl,hv,rfl⟩:=h.num (B:=B9) (fun i hi => hI.out.dig i (Nat.zero_le _) hi)
    rw [hval.out.1] at hv
    have HV:=Lib.hid hv
    have HR:=hI.out.rest
    rw [hval.out.2] at HR
    have HR:=Lib.hid HR
    rename_i HR'
    clear HR' hv
    go_wp2
    go_ret2
    exact ⟨_,_,rfl,HV.out,HR.out,hI.out.below⟩
theorem over_any {X Y:Nat} {x y:Value} {w:World} (hx:IsN B9 w x X) (hy:IsN B9 w y Y) (sx:Sm X) (sxy:Sm (X+Y * 1000000000)) (h0:0<Y) :
  Calls Tryz.prog 188 #[x,y] w (RetQ2 B9 (X / Y) (X % Y) w):=by
 obtain ⟨m,D,r1,s1⟩:=id hx
 obtain ⟨n,E,r2,s2⟩:=id hy
 obtain ⟨a,ga,ca,rfl,-⟩:=s1.shape
 obtain ⟨b,gb,cb,rfl,-⟩:=s2.shape
 by_cases h:m≤2∧n≤2
 ·exact over_short hx hy h.1 h.2 (r1.len2 h.1) (r2.len2 h.2) h0
 ·exact over_long r1 s1 hy sx sxy (by omega) h0
set_option maxHeartbeats 1600000 in
theorem rcommon_any {X Y M:Nat} {x y:Value} {w:World} (hx:IsN B9 w x X) (hy:IsN B9 w y Y) (sx:X≤M) (sy:Y≤M) (sm:Sm (M+M * 1000000000)) :
  Calls Tryz.prog 164 #[x,y] w (RetN B9 (Nat.gcd X Y) w):=by
 have SM:=Lib.hid sm
 go_enter Tryz.func164,Tryz.ntmps164
 go_wp2
 go_loopg [0,1] Y (fun k p q wr => ∃ a:Nat,IsN B9 wr p a∧IsN B9 wr q k∧Hid (a≤M)∧Hid (k≤M)∧Hid (Nat.gcd a k=Nat.gcd X Y)∧Below w.heap.size w wr)
 case atStart => exact ⟨X,hx,hy,sx,sy,rfl,Below.refl _ _⟩
 case round =>
  clear hx hy
  obtain ⟨a,hp,hq,sa,sk,hg,hb⟩:=hrel
  have hq':=Lib.hid hq
  have hp':=Lib.hid hp
  obtain ⟨n,D,r,s⟩:=hq
  obtain ⟨ad,gb,cap,rfl,-,-,-,-⟩:=s.shape
  have hz:=r.zero_iff (by decide)
  by_cases h0:n=0
  ·obtain rfl:=hz.1 h0
   subst h0
   have hgv:Hid (a=Nat.gcd X Y):=by rw [← hg.out,Nat.gcd_zero_right]; rfl
   have HB:=Lib.hid hb
   clear s r hz hp hb
   go_wp2
   go_ret
   exact ⟨_,rfl,hgv.out ▸ hp'.out,HB.out⟩
  ·have h1:0<gk:=Nat.pos_of_ne_zero (fun e => h0 (hz.2 e))
   have hgv:Hid (Nat.gcd gk (a % gk)=Nat.gcd X Y):=by
    show Nat.gcd gk (a % gk)=_
    rw [← hg.out,Nat.gcd_comm a gk,Nat.gcd_rec gk a,Nat.gcd_comm]
   have CO:=Lib.hid (over_any hp'.out hq'.out (SM.out.mono (Nat.le_trans sa.out (Nat.le_add_right _ _))) (SM.out.mono (Nat.add_le_add sa.out (Nat.mul_le_mul_right _ sk.out))) h1)
   have HLT:=Lib.hid (Nat.mod_lt a h1)
   have HB:=Lib.hid hb
   have hn0:0<n:=by omega
   clear s r hz hp hb h1
   go_wp2_with fail
   refine CO.out.mono ?_
   rintro e w1 ⟨u,v,rfl,hu,hv,hb1⟩
   have HV:=Lib.hid hv
   have HQ:=Lib.hid (hq'.out.later hb1)
   have HB1:=Lib.hid (below_keep HB.out hb1)
   clear hu hv hb1
   go_wp2
   go_roundg (a % gk)
   case measure => exact HLT.out
   case rel => exact ⟨gk,HQ.out,HV.out,sk.out,Nat.le_trans (Nat.le_of_lt HLT.out) sk.out,hgv.out,HB1.out⟩
theorem pow9 (i:Nat):B9 ^ i=10 ^ (9 * i):=by rw [Nat.pow_mul]
theorem rep_dig {D:Nat→Nat} {m X i:Nat} (h:Rep B9 D m X) (hi:i<m):D i=X / 10 ^ (9 * i) % 1000000000:=by
 have h1:fval B9 D m=fval B9 (dg B9 X) m:=by rw [h.eq,dg_val,Nat.mod_eq_of_lt h.lt]
 have h2:=fval_inj h.dig (fun i _ => dg_lt (by decide) X i) h1 i hi
 rw [h2,dg,pow9]
theorem chunk_up {D:Nat→Nat} {m X i k:Nat} (h:Rep B9 D m X) (hi:i<m) (hk:k<9):chunk (9 * i+k+1) X=dchar (D i / 10 ^ k % 10) :: chunk (9 * i+k) X:=by
 rw [chunk,rep_dig h hi]
 congr 2
 rw [Nat.pow_add,← Nat.div_div_eq_div_mul]
 generalize X / 10 ^ (9 * i)=Y
 obtain ⟨j,hj⟩:∃ j,9=k+(j+1):=⟨9 - (k+1),by omega⟩
 rw [show (1000000000:Nat)=10 ^ (k+(j+1)) from by rw [← hj],Nat.pow_add,Nat.mod_mul_right_div_self,Nat.mod_mod_of_dvd _ ⟨10 ^ j,by rw [Nat.pow_succ,Nat.mul_comm]⟩]
theorem chunk_dec {j X:Nat} (hj:0<j) (h:X<10 ^ j) (h0:j=1 ∨ X / 10 ^ (j - 1) % 10 ≠ 0):chunk j X=dec X:=by
 rw [← parseD_iff,parseD,if_pos,chunk_val,Nat.mod_eq_of_lt h]
 obtain ⟨t,rfl⟩:∃ t,j=t+1:=⟨j - 1,by omega⟩
 refine ⟨by simp [chunk],fun hh => ?_,chunk_dig _ _⟩
 rcases h0 with h0 | h0
 ·obtain rfl:t=0:=by omega
  simp only [chunk,List.head?_cons,Option.some.injEq] at hh ⊢
  rw [hh]
 ·exfalso
  simp only [Nat.add_sub_cancel] at h0
  simp only [chunk,List.head?_cons,Option.some.injEq] at hh
  have h1:=congrArg UInt8.toNat hh
  rw [dchar_toNat (Nat.mod_lt _ (by decide)),show (48:UInt8).toNat=48 from rfl] at h1
  omega
theorem chunk_low {t X:Nat} (h:X<10 ^ (t+1)) (h0:X / 10 ^ t % 10=0):X<10 ^ t:=by
 have h1:X / 10 ^ t<10:=(Nat.div_lt_iff_lt_mul (Nat.pow_pos (by decide))).2 (by rw [Nat.pow_succ] at h; omega)
 have key:∀ Y:Nat,Y<10→Y % 10=0→Y=0:=by omega
 have h2:X / 10 ^ t=0:=key _ h1 h0
 rcases Nat.div_eq_zero_iff.1 h2 with h3 | h3
 ·have:=Nat.pow_pos (n:=t) (show 0<10 by decide); omega
 ·exact h3
theorem byte0 {S:ByteArray} {c:UInt8} {l:List UInt8} (h:S.data.toList=c :: l) (hi:0<S.size):S[0]=c:=by
 cases S with | mk d => cases d with | mk L => simp only at h; subst h; rfl
theorem byteTail {S:ByteArray} {c:UInt8} {l:List UInt8} (h:S.data.toList=c :: l):(S.extract 1 S.size).data.toList=l:=by
 have hs:S.size=l.length+1:=by show S.data.size=_; rw [← Array.length_toList,h]; rfl
 rw [ByteArray.data_extract,Array.toList_extract,h,hs]
 simp [List.extract]
theorem conv_dchar (t:Nat) (w:World) :
  Sem.run Tryz.prog (convert 70 9 (.slice (some ⟨w.heap.size,0,none⟩) 1 1)) (w.alloc (.cells #[.int .u8 (48+(t:Int) % 10)] 5)) =
   .ok (.string ⟨#[dchar (t % 10)]⟩) (w.alloc (.cells #[.int .u8 (48+(t:Int) % 10)] 5)):=by
 have h:=run_convert_bytes_back (P:=Tryz.prog) (w.alloc (.cells #[.int .u8 (48+(t:Int) % 10)] 5)) 70 9 5 ⟨w.heap.size,0,none⟩ 1 [dchar (t % 10)] Tryz.underlying70 Tryz.underlying5 Tryz.underlying9 ?_
 ·exact h
 ·intro j hj
  obtain rfl:j=0:=by simp at hj; exact hj
  rw [addr0,World.cell?_alloc_at _ _ _ _ rfl]
  have:=dchar_toNat (d:=t % 10) (Nat.mod_lt _ (by decide))
  simp [this]
theorem decimal_zero {x:Value} {w:World} (hx:IsN B9 w x 0) :
  Calls Tryz.prog 128 #[x] w fun e w' => e=.returned (str (dec 0))∧Below w.heap.size w w':=by
 obtain ⟨n,D,r,s⟩:=hx
 obtain ⟨ad,gb,cap,rfl,-,-,-,-⟩:=s.shape
 obtain rfl:n=0:=(r.zero_iff (by decide)).2 rfl
 have e:dec 0=[48]:=dec_small (by decide)
 rw [e]
 clear s r e
 go_enter Tryz.func128,Tryz.ntmps128
 go_wp2
 go_ret
 exact ⟨rfl,Below.refl _ _⟩
set_option maxHeartbeats 3200000 in
set_option maxRecDepth 100000 in
theorem decimal_pos {X:Nat} {x:Value} {w:World} (hx:IsN B9 w x X) (sx:Sm X) (h0:X ≠ 0) :
  Calls Tryz.prog 128 #[x] w fun e w' => e=.returned (str (dec X))∧Below w.heap.size w w':=by
 obtain ⟨m,D,r,s⟩:=hx
 have l:=sx.len9 r
 have hm0:0<m:=by have:=r.zero_iff (by decide); omega
 obtain ⟨ad,g,cap,rfl,ha,-,-,hc⟩:=s.shape
 obtain rfl:=ha hm0
 have HC:=Lib.hid hc
 have R:=Lib.hid r
 clear s hc r ha sx h0
 go_enter Tryz.func128,Tryz.ntmps128
 go_wp2
 go_loopw [3,4] (fun sv iv wr => ∃ i:Nat,i≤m∧iv=.int .i64 (i:Nat)∧sv=str (chunk (9 * i) X)∧Hid (Below w.heap.size w wr)) (fun _ iv _ => m - (intOf iv).toNat)
 case atStart => exact ⟨0,by omega,rfl,rfl,Below.refl _ _⟩
 case round =>
  obtain ⟨i,hi,rfl,rfl,hb⟩:=hrel
  by_cases hlt:i<m
  ·obtain ⟨d,hd⟩:∃ d,d=D i:=⟨_,rfl⟩
   have hd9:d<1000000000:=hd ▸ R.out.dig i hlt
   have hcx:wr.cell? ⟨g,i,none⟩=some (.int .u32 (d:Nat)):=by rw [hd]; exact HC.out.later hb.out (Nat.le_refl _) i hlt
   have HD:=Lib.hid hd
   clear hd
   go_wp2
   go_loopw [3,5,6] (fun sv dv kv wy => ∃ k:Nat,k≤9∧kv=.int .i64 (k:Nat)∧dv=.int .u32 ((d / 10 ^ k:Nat):Int)∧sv=str (chunk (9 * i+k) X)∧Hid (Below w.heap.size w wy)) (fun _ _ kv _ => 9 - (intOf kv).toNat)
   case atStart => exact ⟨0,by omega,rfl,by simp,rfl,hb⟩
   case round =>
    obtain ⟨k,hk,rfl,rfl,rfl,hb⟩:=hrel
    by_cases hk9:k<9
    ·obtain ⟨t,ht⟩:∃ t,t=d / 10 ^ k:=⟨_,rfl⟩
     rw [← ht]
     have ht':=Lib.hid ht
     have ht2:t<1000000000:=by rw [ht]; exact Nat.lt_of_le_of_lt (Nat.div_le_self _ _) hd9
     have HU:Hid (chunk (9 * i+k+1) X=dchar (t % 10) :: chunk (9 * i+k) X):=by
      show _=_
      rw [ht,HD.out]; exact chunk_up R.out hlt hk9
     have hlen:(chunk (9 * i+k) X).length≤100000000:=by rw [chunk_len]; omega
     have HDV:Hid (t / 10=d / 10 ^ (k+1)):=by
      show _=_
      rw [ht,Nat.pow_succ,Nat.div_div_eq_div_mul]
     generalize chunk (9 * i+k) X=C at *
     clear ht
     have hconv:=conv_dchar t wr
     have HBA:=Lib.hid (hb.out.alloc hb.out.size (.cells #[.int .u8 (48+(t:Int) % 10)] 5))
     go_wp2
     exact ⟨⟨k+1,by omega,by go_num,congrArg (Value.int .u32) (by rw [← HDV.out]; rfl),congrArg Value.string (bytes_eq (by rw [show 9 * i+(k+1)=9 * i+k+1 from rfl,HU.out]; simp)),HBA.out⟩,by show _<_; simp [intOf]; omega⟩
    ·obtain rfl:k=9:=by omega
     go_wp2
     exact ⟨⟨i+1,by omega,by go_num,by rw [show 9 * (i+1)=9 * i+9 from by omega],hb.out⟩,by show _<_; simp [intOf]; omega⟩
  ·obtain rfl:i=m:=by omega
   have HX:Hid (X<10 ^ (9 * i)):=by show _<_; rw [← pow9]; exact R.out.lt
   go_wp2
   obtain ⟨wo,hwo⟩:∃ wo:World,wo=wr:=⟨_,rfl⟩
   go_loopw [3] (fun sv wy => ∃ (j:Nat) (S:ByteArray),sv=.string S∧S.size=j∧0<j∧j≤100000000∧Hid (S.data.toList=chunk j X)∧Hid (X<10 ^ j)∧wy=wo) (fun sv _ => match sv with | .string S => S.size | _ => 0)
   case atStart => exact ⟨9 * i,⟨(chunk (9 * i) X).toArray⟩,rfl,by show (chunk (9 * i) X).toArray.size=_; simp [chunk_len],by omega,by omega,by show _=_; simp,HX.out,hwo.symm⟩
   case round =>
    obtain ⟨j,S,rfl,hS,hj,hj2,hl,hx,rfl⟩:=hrel
    obtain ⟨q,rfl⟩:∃ q,j=q+1:=⟨j - 1,by omega⟩
    have hcons:S.data.toList=dchar (X / 10 ^ q % 10) :: chunk q X:=by rw [hl.out]; rfl
    have HT:Hid ((S.extract 1 (q+1)).data.toList=chunk q X):=by show _=_; rw [← hS]; exact byteTail hcons
    have HLD:=Lib.hid (chunk_dec (X:=X) hj hx.out)
    have HS:=Lib.hid hS
    have fin:Hid (chunk (q+1) X=dec X→Ending.returned (.string S)=.returned (str (dec X))):=fun h => by
     rw [← h]; exact congrArg (fun b:ByteArray => Ending.returned (.string b)) (bytes_eq (by simpa using hl.out))
    by_cases h1:0<q
    ·have h2:decide (1<(q:Int)+1)=true:=by rw [decide_eq_true_eq]; omega
     by_cases h0:X / 10 ^ q % 10=0
     ·have h3:∀ hi:0<S.size,((S[0].toNat:Int) == 48)=true:=fun hi => by rw [byte0 hcons hi,h0]; rfl
      have HX2:=Lib.hid (chunk_low hx.out h0)
      clear hcons h0
      go_wp2
      have hsz:(S.extract 1 (q+1)).size=q:=by show (S.extract 1 (q+1)).data.size=q; rw [← Array.length_toList,HT.out,chunk_len]
      refine ⟨⟨q,S.extract 1 (q+1),rfl,hsz,h1,by omega,HT.out,HX2.out,hwo.symm⟩,?_⟩
      show (S.extract 1 (q+1)).size<S.size
      have:=HS.out
      omega
     ·have h3:∀ hi:0<S.size,((S[0].toNat:Int) == 48)=false:=fun hi => by
       rw [byte0 hcons hi,dchar_toNat (Nat.mod_lt _ (by decide)),beq_eq_false_iff_ne]; omega
      have HF:=Lib.hid (HLD.out (.inr (by simpa using h0)))
      clear hcons h0
      go_wp2
      go_ret
      exact ⟨fin.out HF.out,hb.out⟩
    ·obtain rfl:q=0:=by omega
     have HF:=Lib.hid (HLD.out (.inl rfl))
     clear hcons
     go_wp2
     go_ret
     exact ⟨fin.out HF.out,hb.out⟩
theorem decimal_any {X:Nat} {x:Value} {w:World} (hx:IsN B9 w x X) (sx:Sm X) :
  Calls Tryz.prog 128 #[x] w fun e w' => e=.returned (str (dec X))∧Below w.heap.size w w':=by
 by_cases h:X=0
 ·subst h; exact decimal_zero hx
 ·exact decimal_pos hx sx h
def Q9 (w:World) (v:Value) (q:Rat):Prop:=∃ vn vd,v=.agg #[.bool (qneg q),vn,vd]∧IsN B9 w vn (qnum q)∧IsN B9 w vd q.den
theorem Q9.later {w w':World} {v:Value} {q:Rat} (h:Q9 w v q) (hb:Below w.heap.size w w'):Q9 w' v q :=
 let ⟨vn,vd,e,h1,h2⟩:=h; ⟨vn,vd,e,h1.later hb,h2.later hb⟩
def RetQ9 (q:Rat) (w:World) (e:Ending) (w':World):Prop:=∃ v,e=.returned v∧Q9 w' v q∧Below w.heap.size w w'
theorem IsN.setFar {B X:Nat} {w:World} {v u:Value} {a:Addr} (h:IsN B w v X) (hc:w.cell? a=some u) (hu:∀ k n,u ≠ .int k n) (z:Value):IsN B (w.setCell a z) v X:=by
 obtain ⟨n,D,r,s⟩:=h
 refine ⟨n,D,r,?_⟩
 rcases s with s | ⟨g,cap,e,h1,h2,h3⟩
 ·exact .inl s
 ·refine .inr ⟨g,cap,e,h1,h2,fun i hi => ?_⟩
  have:=h3 i hi
  rw [World.cell?_setCell_other w a ⟨g,i,none⟩ _ (fun e => by rw [e,this] at hc; injection hc with hc; exact hu _ _ hc.symm)]
  exact this
structure Res9 (w:World) (g:Nat):Prop where
 c0:w.cell? ⟨g,0,none⟩=some (.bool false)
 c1:w.cell? ⟨g,1,none⟩=some (.slice none 0 0)
 c2:w.cell? ⟨g,2,none⟩=some (.slice none 0 0)
 f0:w.frozen? ⟨g,0,none⟩=false
 f1:w.frozen? ⟨g,1,none⟩=false
 f2:w.frozen? ⟨g,2,none⟩=false
theorem Res9.made (w:World) (t:TypeId):Res9 (w.alloc (.cells #[.bool false,.slice none 0 0,.slice none 0 0] t)) w.heap.size:=by
 constructor
 all_goals first
  | (rw [World.cell?_alloc_at _ _ _ _ rfl]; rfl)
  | exact World.frozen?_alloc_at _ _ _ _ rfl
theorem Res9.later {w w':World} {B g:Nat} (h:Res9 w g) (hb:Below B w w') (hg:g<B):Res9 w' g :=
 ⟨(hb.cell (p:=⟨g,0,none⟩) hg).trans h.c0,(hb.cell (p:=⟨g,1,none⟩) hg).trans h.c1,(hb.cell (p:=⟨g,2,none⟩) hg).trans h.c2,
  (hb.frozen (p:=⟨g,0,none⟩) hg).trans h.f0,(hb.frozen (p:=⟨g,1,none⟩) hg).trans h.f1,(hb.frozen (p:=⟨g,2,none⟩) hg).trans h.f2⟩
theorem Res9.set3 {w:World} {g B X:Nat} {v:Value} (h:Res9 w g) (hv:IsN B w v X) (z0 z1 z2:Value) :
  IsN B (((w.setCell ⟨g,0,none⟩ z0).setCell ⟨g,1,none⟩ z1).setCell ⟨g,2,none⟩ z2) v X:=by
 have e1:(w.setCell ⟨g,0,none⟩ z0).cell? ⟨g,1,none⟩=some (.slice none 0 0):=by
  rw [World.cell?_setCell_other w ⟨g,0,none⟩ ⟨g,1,none⟩ _ (by simp)]; exact h.c1
 have e2:((w.setCell ⟨g,0,none⟩ z0).setCell ⟨g,1,none⟩ z1).cell? ⟨g,2,none⟩=some (.slice none 0 0):=by
  rw [World.cell?_setCell_other _ ⟨g,1,none⟩ ⟨g,2,none⟩ _ (by simp),World.cell?_setCell_other w ⟨g,0,none⟩ ⟨g,2,none⟩ _ (by simp)]; exact h.c2
 exact ((hv.setFar h.c0 (fun _ _ => by simp) _).setFar e1 (fun _ _ => by simp) _).setFar e2 (fun _ _ => by simp) _
theorem below_set3 {w w1:World} {a b c:Value} (h:Below w.heap.size w w1) :
  Below w.heap.size w (((w1.setCell ⟨w.heap.size,0,none⟩ a).setCell ⟨w.heap.size,1,none⟩ b).setCell ⟨w.heap.size,2,none⟩ c) :=
 ((h.setCell (Nat.le_refl _) _).setCell (Nat.le_refl _) _).setCell (Nat.le_refl _) _
theorem sm_pow {k:Nat} (hk:k≤1000000):Sm (2 ^ k+2 ^ k * 1000000000):=Sm.of_bits (k:=k+31) (by rw [Nat.pow_add]; have:=Nat.pow_pos (n:=k) (show 0<2 by decide); omega) (by omega)
theorem sm_lt {X k:Nat} (h:X<2 ^ k) (hk:k≤1000000):Sm X:=Sm.of_bits h (by omega)
theorem over_from {X Y k:Nat} {x y:Value} {w w1 w2:World} (hx:IsN B9 w x X) (hy:IsN B9 w2 y Y) (bx:X<2 ^ k) (by_:Y≤2 ^ k) (hk:k≤1000000) (h0:0<Y) (hb:Below w.heap.size w w1) (hb2:Below w2.heap.size w2 w1) :
  Calls Tryz.prog 188 #[x,y] w1 (RetQ2 B9 (X / Y) (X % Y) w1) :=
 over_any (hx.later hb) (hy.later hb2) (sm_lt bx hk) ((sm_pow hk).mono (Nat.add_le_add (Nat.le_of_lt bx) (Nat.mul_le_mul_right _ by_))) h0
set_option maxHeartbeats 1600000 in
theorem red9_any {neg:Bool} {X Y k:Nat} {x y:Value} {w:World} (hx:IsN B9 w x X) (hy:IsN B9 w y Y) (bx:X<2 ^ k) (by_:Y<2 ^ k) (hk:k≤1000000) (h0:Y ≠ 0) :
  Calls Tryz.prog 224 #[.bool neg,x,y] w (RetQ9 (mkRat (sgn neg X) Y) w):=by
 have hg0:0<Nat.gcd X Y:=Nat.gcd_pos_of_pos_right _ (by omega)
 have hgY:Nat.gcd X Y≤2 ^ k:=Nat.le_trans (Nat.gcd_le_right X (by omega)) (Nat.le_of_lt by_)
 have CG:=Lib.hid (fun (w1:World) (h:Below w.heap.size w w1) => rcommon_any (hx.later h) (hy.later h) (Nat.le_of_lt bx) (Nat.le_of_lt by_) (sm_pow hk))
 have CX:=Lib.hid (fun (w1 w2:World) (v:Value) (hv:IsN B9 w2 v (Nat.gcd X Y)) (h1:Below w.heap.size w w1) (h2:Below w2.heap.size w2 w1) => over_from hx hv bx hgY hk hg0 h1 h2)
 have CY:=Lib.hid (fun (w1 w2:World) (v:Value) (hv:IsN B9 w2 v (Nat.gcd X Y)) (h1:Below w.heap.size w w1) (h2:Below w2.heap.size w2 w1) => over_from hy hv by_ hgY hk hg0 h1 h2)
 have HQ:Hid (qnum (mkRat (sgn neg X) Y)=X / Nat.gcd X Y∧(mkRat (sgn neg X) Y).den=Y / Nat.gcd X Y∧qneg (mkRat (sgn neg X) Y)=(neg && decide (X ≠ 0))) :=
  ⟨mk_num neg X Y h0,mk_den neg X Y h0,mk_neg neg X Y h0⟩
 have HZ:Hid (X / Nat.gcd X Y=0 ↔ X=0):=by
  show _ ↔ _
  rw [Nat.div_eq_zero_iff]
  constructor
  ·rintro (h | h)
   ·omega
   ·rcases Nat.eq_zero_or_pos X with h1 | h1
    ·exact h1
    ·have:=Nat.gcd_le_left Y h1; omega
  ·intro h; subst h; exact .inr hg0
 have HR:=Lib.hid (Res9.made w 136)
 have HB0:=Lib.hid (below_alloc w (.cells #[.bool false,.slice none 0 0,.slice none 0 0] 136))
 clear hx hy bx by_ h0 hg0 hgY
 go_enter Tryz.func224,Tryz.ntmps224
 go_wp2_with fail
 refine (CG.out _ HB0.out).mono ?_
 rintro e w1 ⟨vg,rfl,hvg,hb1⟩
 have HV:=Lib.hid hvg
 have HB1:=Lib.hid (below_keep HB0.out hb1)
 have HR1:=Lib.hid (HR.out.later hb1 (by simp))
 clear hvg hb1 HR
 go_wp2_with fail
 refine (CX.out _ _ _ HV.out HB1.out (Below.refl _ _)).mono ?_
 rintro e w2 ⟨vn,v9,rfl,hvn,-,hb2⟩
 have HN:=Lib.hid hvn
 have HB2:=Lib.hid (below_keep HB1.out hb2)
 have HV2:=Lib.hid hb2
 have HR2:=Lib.hid (HR1.out.later hb2 (by have:=HB1.out.size; have:=HB0.out.size; exact World.block_lt_of_cell? _ _ HR1.out.c0))
 clear hvn hb2 HR1
 go_wp2_with fail
 refine (CY.out _ _ _ HV.out HB2.out HV2.out).mono ?_
 rintro e w3 ⟨vd,v8,rfl,hvd,-,hb3⟩
 have HD:=Lib.hid hvd
 have HB3:=Lib.hid (below_keep HB2.out hb3)
 have HN3:=Lib.hid (HN.out.later hb3)
 have HR3:=Lib.hid (HR2.out.later hb3 (World.block_lt_of_cell? _ _ HR2.out.c0))
 obtain ⟨a,n,cap,rfl,hz⟩:=HN.out.shape (by decide)
 obtain ⟨a',n',cap',rfl,-⟩:=HD.out.shape (by decide)
 have hz:Hid (n=0 ↔ X=0):=hz.trans HZ.out
 rename_i hz'
 clear hz' hvd hb3 HR2 HN HB0 HB1 HB2 HV2
 obtain ⟨r0,r1,r2,f0,f1,f2⟩:=HR3.out
 have fin:Hid (∀ b,b=(neg && decide (X ≠ 0))→Q9 (((w3.setCell ⟨w.heap.size,0,none⟩ (.bool b)).setCell ⟨w.heap.size,1,none⟩ (.slice a n cap)).setCell ⟨w.heap.size,2,none⟩ (.slice a' n' cap')) (.agg #[.bool b,.slice a n cap,.slice a' n' cap']) (mkRat (sgn neg X) Y)):=fun b hb =>
  ⟨.slice a n cap,.slice a' n' cap',by rw [HQ.out.2.2,hb],by rw [HQ.out.1]; exact HR3.out.set3 HN3.out _ _ _,by rw [HQ.out.2.1]; exact HR3.out.set3 HD.out _ _ _⟩
 cases neg
 ·go_wp2
  refine bodyPost_ret (by simp [results,Tryz.results224,go_sem,r0,r1,r2]; try rfl) rfl ?_
  exact ⟨_,rfl,fin.out false (by simp),below_set3 HB3.out⟩
 ·by_cases h:n=0
  ·subst h
   have hX:=hz.out.1 rfl
   have hX:Hid (X=0):=hX
   rename_i hX'
   clear hX'
   go_wp2
   refine bodyPost_ret (by simp [results,Tryz.results224,go_sem,r0,r1,r2]; try rfl) rfl ?_
   exact ⟨_,rfl,fin.out false (by simp [hX.out]),below_set3 HB3.out⟩
  ·have h1:0<n:=by omega
   have hX:Hid (X ≠ 0):=fun e => h (hz.out.2 e)
   clear h
   go_wp2
   refine bodyPost_ret (by simp [results,Tryz.results224,go_sem,r0,r1,r2]; try rfl) rfl ?_
   exact ⟨_,rfl,fin.out true (by simp [hX.out]),below_set3 HB3.out⟩
theorem size9_neg (n:Int) (w:World) (h1 : -9223372036854775808≤n) (h2:n<0) :
  Calls Tryz.prog 131 #[.int .i64 n] w (RetN B9 n.natAbs w):=by
 have e:=neg_u64 h1 h2
 have e2:IntKind.u64.wrap (0 - IntKind.u64.wrap n)=(n.natAbs:Int):=by rw [Int.zero_sub]; exact e
 have hN:=Lib.hid (natural_any n.natAbs (by omega) w)
 go_enter Tryz.func131,Tryz.ntmps131
 go_wp2_with fail
 refine hN.out.mono ?_
 rintro e w1 ⟨v,rfl,hv,hb⟩
 go_wp2
 go_ret
 exact ⟨_,rfl,hv,hb⟩
theorem size9_pos (n:Nat) (w:World) (h2:n≤9223372036854775807) :
  Calls Tryz.prog 131 #[.int .i64 (n:Int)] w (RetN B9 n w):=by
 have hN:=Lib.hid (natural_any n (by omega) w)
 go_enter Tryz.func131,Tryz.ntmps131
 go_wp2_with fail
 refine hN.out.mono ?_
 rintro e w1 ⟨v,rfl,hv,hb⟩
 go_wp2
 go_ret
 exact ⟨_,rfl,hv,hb⟩
theorem size9_any (n:Int) (w:World) (h1 : -9223372036854775808≤n) (h2:n≤9223372036854775807) :
  Calls Tryz.prog 131 #[.int .i64 n] w (RetN B9 n.natAbs w):=by
 by_cases h:n<0
 ·exact size9_neg n w h1 h
 ·obtain ⟨k,rfl⟩:=Int.eq_ofNat_of_zero_le (show 0≤n by omega)
  exact size9_pos k w (by omega)
structure At9 (w:World) (g:Nat) (vn vd:Value) (q:Rat):Prop where
 neg:w.cell? ⟨g,0,none⟩=some (.bool (qneg q))
 num:w.cell? ⟨g,1,none⟩=some vn
 den:w.cell? ⟨g,2,none⟩=some vd
 isNum:IsN B9 w vn (qnum q)
 isDen:IsN B9 w vd q.den
theorem At9.made {w:World} {vn vd:Value} {q:Rat} {t:TypeId} (hn:IsN B9 w vn (qnum q)) (hd:IsN B9 w vd q.den):At9 (w.alloc (.cells #[.bool (qneg q),vn,vd] t)) w.heap.size vn vd q :=
 ⟨by rw [World.cell?_alloc_at _ _ _ _ rfl]; rfl,by rw [World.cell?_alloc_at _ _ _ _ rfl]; rfl,by rw [World.cell?_alloc_at _ _ _ _ rfl]; rfl,hn.later (below_alloc _ _),hd.later (below_alloc _ _)⟩
theorem At9.later {w w':World} {g:Nat} {vn vd:Value} {q:Rat} (h:At9 w g vn vd q) (hb:Below w.heap.size w w'):At9 w' g vn vd q :=
 have hg:g<w.heap.size:=World.block_lt_of_cell? w ⟨g,0,none⟩ h.neg
 ⟨(hb.cell (p:=⟨g,0,none⟩) hg).trans h.neg,(hb.cell (p:=⟨g,1,none⟩) hg).trans h.num,(hb.cell (p:=⟨g,2,none⟩) hg).trans h.den,h.isNum.later hb,h.isDen.later hb⟩
theorem one9_any (w:World):Calls Tryz.prog 130 #[.int .u64 1] w (RetN B9 1 w):=natural_any 1 (by decide) w
structure Bx9 (w:World) (g:Nat) (b:Bool) (vn vd:Value) (q:Rat):Prop where
 neg:w.cell? ⟨g,0,none⟩=some (.bool b)
 num:w.cell? ⟨g,1,none⟩=some vn
 den:w.cell? ⟨g,2,none⟩=some vd
 isNum:IsN B9 w vn (qnum q)
 isDen:IsN B9 w vd q.den
theorem box9 {w:World} {b:Bool} {vn vd:Value} {q:Rat} {t:TypeId} (hq:b=qneg q) (hn:IsN B9 w vn (qnum q)) (hd:IsN B9 w vd q.den) {w':World}
  (hb:Below (w.alloc (.cells #[.bool b,vn,vd] t)).heap.size (w.alloc (.cells #[.bool b,vn,vd] t)) w'):Bx9 w' w.heap.size b vn vd q∧Below w.heap.size w w':=by
 subst hq
 have h:=(At9.made (t:=t) hn hd).later hb
 exact ⟨⟨h.neg,h.num,h.den,h.isNum,h.isDen⟩,below_keep (below_alloc _ _) hb⟩
theorem boxP {w:World} {b:Bool} {vn vd:Value} {q:Rat} (t:TypeId) (hq:b=qneg q) (hn:IsN B9 w vn (qnum q)) (hd:IsN B9 w vd q.den) :
  ∃ P:World→Prop,P (w.alloc (.cells #[.bool b,vn,vd] t))∧Hid (∀ w1 w2,P w1→Below w1.heap.size w1 w2→P w2)∧Hid (∀ w1,P w1→P w1.drew)∧Hid (∀ w1,P w1→Bx9 w1 w.heap.size b vn vd q∧Below w.heap.size w w1) :=
 ⟨fun w1 => Below (w.alloc (.cells #[.bool b,vn,vd] t)).heap.size (w.alloc (.cells #[.bool b,vn,vd] t)) w1,Below.refl _ _,fun _ _ h1 h2 => below_keep h1 h2,fun _ h => h.drew,fun _ h => box9 hq hn hd h⟩
theorem cmpN_ne (x:Nat):(cmpN x 1 != 0)=decide (x ≠ 1):=by
 unfold cmpN
 rw [Bool.eq_iff_iff]
 by_cases h1:x<1
 ·rw [if_pos h1]; simp; omega
 ·rw [if_neg h1]
  by_cases h2:1<x
  ·rw [if_pos h2]; simp; omega
  ·rw [if_neg h2]; simp; omega
set_option maxHeartbeats 3200000 in
set_option maxRecDepth 100000 in
theorem text9_any {q:Rat} {k:Nat} {v:Value} {w:World} (h:Q9 w v q) (b:Bd k q) (hk:k≤1000000) :
  Calls Tryz.prog 82 #[v] w (RetV (str (ratS q)) w):=by
 obtain ⟨vn,vd,rfl,hn,hd⟩:=h
 obtain ⟨a,n1,cap,rfl,-⟩:=hn.shape (by decide)
 obtain ⟨a',n',cap',rfl,-⟩:=hd.shape (by decide)
 have sn:=sm_lt b.num hk
 have sd:=sm_lt b.den hk
 clear b
 obtain ⟨b,hq⟩:∃ b,b=qneg q:=⟨_,rfl⟩
 obtain ⟨P,p0,PK,PD,PG⟩:=boxP 136 hq hn hd
 rw [← hq]
 have HQ:=Lib.hid hq.symm
 have H1:=Lib.hid (fun (w1:World) (hb:P w1) => decimal_any (PG.out w1 hb).1.isNum sn)
 have H2:=Lib.hid (fun (w1:World) (hb:P w1) => decimal_any (PG.out w1 hb).1.isDen sd)
 have H3:=Lib.hid (fun (w2:World) (v:Value) (hv:IsN B9 w2 v 1) (hb:P w2) => rcmp_any (PG.out w2 hb).1.isDen hv)
 have KD:=Lib.hid (fun (w2:World) (hb:P w2) => And.intro (PG.out w2 hb).1.den hb)
 have L1:=sn.dec_len
 have L2:=sd.dec_len
 have P0:=Lib.hid p0
 obtain ⟨⟨k0,k1,k2,-,-⟩,-⟩:=PG.out _ p0
 clear hn hd sn sd hq p0
 go_enter Tryz.func82,Tryz.ntmps82
 go_wp2_with fail
 refine (H1.out _ P0.out).mono ?_
 rintro e w1 ⟨rfl,hb1⟩
 have HB1:=Lib.hid (PK.out _ _ P0.out hb1)
 clear hb1 k0 k1 k2
 obtain ⟨⟨k0,k1,k2,-,-⟩,-⟩:=PG.out _ HB1.out
 have hbd:=PD.out _ HB1.out
 cases b
 all_goals
  by_cases hd1:q.den=1
  ·have hc:(cmpN q.den 1 != 0)=false:=by rw [cmpN_ne]; simpa using hd1
   have HD1:=Lib.hid hd1
   clear hd1
   go_wp2_with fail
   go_region_held3 (fun w' => w'.cell? ⟨w.heap.size,2,none⟩=some (.slice a' n' cap')∧P w')
    (exact KD.out _ (by assumption))
    (first
     | (go_at_call 130; refine (one9_any _).mono ?_; rintro e w2 ⟨v2,rfl,hv2,hb2⟩; have hB2:=PK.out _ _ hbd hb2)
     | (go_at_call 129; refine (H3.out _ _ hv2 hB2).mono ?_; rintro e w3 ⟨rfl,kq,rfl⟩; have hB3:=PK.out _ _ hB2 (below_drewN' _ kq)))
   have HB3:=Lib.hid hB3
   clear hB2 hB3 hb2 hv2 hbd
   go_wp2
   go_ret
   refine ⟨congrArg (fun b:ByteArray => Ending.returned (.string b)) (bytes_eq ?_),(PG.out _ HB3.out).2⟩
   simp [ratS,HQ.out,HD1.out]
  ·have hc:(cmpN q.den 1 != 0)=true:=by rw [cmpN_ne]; simpa using hd1
   have HD1:=Lib.hid hd1
   clear hd1
   go_wp2_with fail
   go_region_held3 (fun w' => w'.cell? ⟨w.heap.size,2,none⟩=some (.slice a' n' cap')∧P w')
    (exact KD.out _ (by assumption))
    (first
     | (go_at_call 130; refine (one9_any _).mono ?_; rintro e w2 ⟨v2,rfl,hv2,hb2⟩; have hB2:=PK.out _ _ hbd hb2)
     | (go_at_call 129; refine (H3.out _ _ hv2 hB2).mono ?_; rintro e w3 ⟨rfl,kq,rfl⟩; have hB3:=PK.out _ _ hB2 (below_drewN' _ kq)))
   have HB3:=Lib.hid hB3
   clear hB2 hB3 hb2 hv2 hbd k0 k1 k2
   obtain ⟨k2,-⟩:=KD.out _ HB3.out
   go_wp2_with fail
   refine (H2.out _ HB3.out).mono ?_
   rintro e w4 ⟨rfl,hb4⟩
   have HB4:=Lib.hid (PK.out _ _ HB3.out hb4)
   clear hb4 k2
   go_wp2
   go_ret
   refine ⟨congrArg (fun b:ByteArray => Ending.returned (.string b)) (bytes_eq ?_),(PG.out _ HB4.out).2⟩
   simp [ratS,HQ.out,HD1.out]
theorem below_set3' {w w1:World} {a b c:Value} {g:Nat} (h:Below w.heap.size w w1) (hg:w.heap.size≤g) :
  Below w.heap.size w (((w1.setCell ⟨g,0,none⟩ a).setCell ⟨g,1,none⟩ b).setCell ⟨g,2,none⟩ c) :=
 ((h.setCell hg _).setCell hg _).setCell hg _
theorem missing9_any (r:Int) (w:World) :
  Calls Tryz.prog 204 #[.int .i64 r] w fun e w' => e=.returned (missV r).v∧Below w.heap.size w w':=by
 go_enter Tryz.func204,Tryz.ntmps204
 go_wp2
 go_returns
 exact ⟨rfl,below_alloc _ _⟩
theorem truth9_any (b:Bool) (w:World) :
  Calls Tryz.prog 202 #[.bool b] w fun e w' => e=.returned (truthV b).v∧Below w.heap.size w w':=by
 cases b
 all_goals
  go_enter Tryz.func202,Tryz.ntmps202
  go_wp2
  go_returns
  exact ⟨rfl,below_alloc _ _⟩
theorem cmp_over (X Y:Nat):(decide (0<cmpN X Y))=decide (Y<X):=by
 unfold cmpN
 by_cases h:X<Y
 ·rw [if_pos h,Bool.eq_iff_iff]; simp; omega
 ·rw [if_neg h]
  by_cases h2:Y<X
  ·rw [if_pos h2,Bool.eq_iff_iff]; simp [h2]
  ·rw [if_neg h2,Bool.eq_iff_iff]; simp; omega
set_option maxHeartbeats 1600000 in
set_option maxRecDepth 100000 in
theorem word9_any {X:Nat} {x:Value} {w:World} (hx:IsN B9 w x X) :
  Calls Tryz.prog 225 #[x] w (RetV (.tuple #[.int .i64 (if X≤T40 then (X:Int) else 0),.bool (decide (X≤T40))]) w):=by
 have C1:Hid (∀ w1,Calls Tryz.prog 130 #[.int .u64 1099511627776] w1 (RetN B9 1099511627776 w1)):=fun w1 => natural_any 1099511627776 (by decide) w1
 have C2:=Lib.hid (fun (w1:World) (v:Value) (hb:Below w.heap.size w w1) (hv:IsN B9 w1 v 1099511627776) => rcmp_any (hx.later hb) hv)
 have CO:=Lib.hid (cmp_over X 1099511627776)
 by_cases h:X≤T40
 ·rw [if_pos h,decide_eq_true h]
  unfold T40 at h
  obtain ⟨m,D,r1,s1⟩:=hx
  have l1:m≤2:=r1.len_le (k:=2) (by decide) (show X<1000000000 ^ 2 by omega)
  have hval:=Lib.hid (short_val r1 l1)
  obtain ⟨d,hd⟩:∃ d,d=cutD D m 0:=⟨_,rfl⟩
  obtain ⟨e,he⟩:∃ e,e=cutD D m 1:=⟨_,rfl⟩
  have hd9:d<1000000000:=hd ▸ cutD_lt (B:=B9) (by decide) r1.dig 0
  have he9:e<1000000000:=he ▸ cutD_lt (B:=B9) (by decide) r1.dig 1
  have D1:=Lib.hid (fun (w1:World) (hb:Below w.heap.size w w1) => digit_any 0 (s1.later hb (Nat.le_refl _)) r1.dig (by omega) (by omega))
  have D2:=Lib.hid (fun (w1:World) (hb:Below w.heap.size w w1) => digit_any 1 (s1.later hb (Nat.le_refl _)) r1.dig (by omega) (by omega))
  rw [← hd] at D1 hval
  rw [← he] at D2 hval
  obtain ⟨a,g,cap,rfl,-⟩:=s1.shape
  obtain ⟨c,hc⟩:∃ c,c=cmpN X 1099511627776:=⟨_,rfl⟩
  rw [← hc] at C2 CO
  have hc0:decide (0<c)=false:=by rw [CO.out,decide_eq_false_iff_not]; omega
  clear r1 s1 hd he h l1 hc
  go_enter Tryz.func225,Tryz.ntmps225
  go_wp2_with fail
  refine (C1.out _).mono ?_
  rintro e1 w1 ⟨v1,rfl,hv1,hb1⟩
  have HB1:=Lib.hid hb1
  have V1:=Lib.hid hv1
  clear hv1 hb1
  go_wp2_with fail
  refine (C2.out _ _ HB1.out V1.out).mono ?_
  rintro e1 w2 ⟨rfl,kq,rfl⟩
  have HB2:=Lib.hid (below_keep HB1.out (below_drewN' _ kq))
  go_wp2_with fail
  refine (D1.out _ HB2.out).mono ?_
  rintro e1 w3 ⟨rfl,rfl⟩
  go_wp2_with fail
  refine (D2.out _ HB2.out).mono ?_
  rintro e1 w3 ⟨rfl,rfl⟩
  go_wp2
  go_ret2
  exact ⟨congrArg (fun z:Int => Ending.returned (.tuple #[.int .i64 z,.bool true])) (by have:=hval.out; omega),HB2.out⟩
 ·rw [if_neg h,decide_eq_false h]
  unfold T40 at h
  obtain ⟨a,n,cap,rfl,-⟩:=hx.shape (by decide)
  obtain ⟨c,hc⟩:∃ c,c=cmpN X 1099511627776:=⟨_,rfl⟩
  rw [← hc] at C2 CO
  have hc0:decide (0<c)=true:=by rw [CO.out,decide_eq_true_eq]; omega
  clear hx h hc
  go_enter Tryz.func225,Tryz.ntmps225
  go_wp2_with fail
  refine (C1.out _).mono ?_
  rintro e1 w1 ⟨v1,rfl,hv1,hb1⟩
  have HB1:=Lib.hid hb1
  have V1:=Lib.hid hv1
  clear hv1 hb1
  go_wp2_with fail
  refine (C2.out _ _ HB1.out V1.out).mono ?_
  rintro e1 w2 ⟨rfl,kq,rfl⟩
  have HB2:=Lib.hid (below_keep HB1.out (below_drewN' _ kq))
  go_wp2
  go_ret2
  exact ⟨rfl,HB2.out⟩
theorem below_set4' {w w1:World} {a b c d:Value} {g:Nat} (h:Below w.heap.size w w1) (hg:w.heap.size≤g) :
  Below w.heap.size w ((((w1.setCell ⟨g,0,none⟩ a).setCell ⟨g,1,none⟩ b).setCell ⟨g,2,none⟩ c).setCell ⟨g,3,none⟩ d) :=
 (((h.setCell hg _).setCell hg _).setCell hg _).setCell hg _
set_option maxHeartbeats 3200000 in
set_option maxRecDepth 100000 in
theorem value9_any {q:Rat} {v:Value} {w:World} (h:Q9 w v q) :
  Calls Tryz.prog 207 #[v] w (RetV (valQ q).v w):=by
 obtain ⟨vn,vd,rfl,hn,hd⟩:=h
 obtain ⟨a,n1,cap,rfl,-⟩:=hn.shape (by decide)
 obtain ⟨a',n',cap',rfl,-⟩:=hd.shape (by decide)
 obtain ⟨b,hq⟩:∃ b,b=qneg q:=⟨_,rfl⟩
 obtain ⟨P,p0,PK,PD,PG⟩:=boxP 136 hq hn hd
 rw [← hq]
 have hr:=ResV.made (w.alloc (.cells #[.bool b,.slice a n1 cap,.slice a' n' cap'] 136)) 59
 have p1:=PK.out _ _ p0 (below_alloc (w.alloc (.cells #[.bool b,.slice a n1 cap,.slice a' n' cap'] 136)) (.cells #[.int .i64 0,.int .i64 0,.int .i64 0,.string ⟨#[]⟩] 59))
 rw [World.size_alloc] at hr
 have HR:=Lib.hid hr
 have HM:=Lib.hid (fun w1 => missing9_any 2 w1)
 have H1:=Lib.hid (fun (w1:World) (hb:P w1) => word9_any (PG.out w1 hb).1.isNum)
 have H2:=Lib.hid (fun (w1:World) (hb:P w1) => word9_any (PG.out w1 hb).1.isDen)
 obtain ⟨⟨k0,k1,k2,-,-⟩,-⟩:=PG.out _ p1
 have P1:=Lib.hid p1
 have HNUM:Hid (q.num=if b=true then -(qnum q:Int) else (qnum q:Int)):=by show _=_; rw [q_num q,← hq]; rfl
 obtain ⟨N,hN⟩:∃ N:Int,(if qnum q≤T40 then (qnum q:Int) else 0)=N:=⟨_,rfl⟩
 obtain ⟨D,hD⟩:∃ D:Int,(if q.den≤T40 then (q.den:Int) else 0)=D:=⟨_,rfl⟩
 obtain ⟨f,hf⟩:∃ f,decide (qnum q≤T40)=f:=⟨_,rfl⟩
 obtain ⟨g,hg⟩:∃ g,decide (q.den≤T40)=g:=⟨_,rfl⟩
 rw [hN,hf] at H1
 rw [hD,hg] at H2
 have HV:Hid (valQ q=if f=true∧g=true then ⟨2,if b=true then -N else N,D,[]⟩ else missV 2):=by
  show _=_
  unfold valQ
  rw [← hf,← hg]
  simp only [decide_eq_true_eq]
  split
  ·rename_i h
   rw [← hN,← hD,if_pos h.1,if_pos h.2,← HNUM.out]
  ·rfl
 have hlim:0≤N∧N≤1099511627776:=by
  rw [← hN]; unfold T40; split <;> omega
 obtain ⟨hl1,hl2⟩:=hlim
 clear hn hd hq p0 p1 hr hN hD hf hg
 have hfg:(f=true∧g=true) ∨ f=false ∨ (f=true∧g=false):=by cases f <;> cases g <;> simp
 go_enter Tryz.func207,Tryz.ntmps207
 go_wp2_with fail
 refine (H1.out _ P1.out).mono ?_
 rintro e w1 ⟨rfl,hb1⟩
 have Q1:=Lib.hid (PK.out _ _ P1.out hb1)
 have HR1:=Lib.hid (HR.out.later hb1 (by simp))
 clear k0 k1 k2 hb1 HR H1
 obtain ⟨⟨k0,k1,k2,-,-⟩,-⟩:=PG.out _ Q1.out
 go_wp2_with fail
 refine (H2.out _ Q1.out).mono ?_
 rintro e w2 ⟨rfl,hb2⟩
 have Q2:=Lib.hid (PK.out _ _ Q1.out hb2)
 have HR2:=Lib.hid (HR1.out.later hb2 (World.block_lt_of_cell? _ _ HR1.out.box.kind))
 clear k0 k1 k2 hb2 H2
 obtain ⟨⟨k0,-,-,-,-⟩,-⟩:=PG.out _ Q2.out
 rcases hfg with ⟨rfl,rfl⟩ | rfl | ⟨rfl,rfl⟩
 ·obtain ⟨⟨r0,r1,r2,r3⟩,f0,f1,f2,f3⟩:=HR2.out
  cases b with
  | false =>
   go_wp2
   refine bodyPost_ret (by simp [results,Tryz.results207,go_sem,r0,r1,r2,r3]; try rfl) rfl ?_
   exact ⟨by rw [HV.out]; rfl,below_set4' (PG.out _ Q2.out).2 (Nat.le_succ _)⟩
  | true =>
   go_wp2
   refine bodyPost_ret (by simp [results,Tryz.results207,go_sem,r0,r1,r2,r3]; try rfl) rfl ?_
   exact ⟨by rw [HV.out]; rfl,below_set4' (PG.out _ Q2.out).2 (Nat.le_succ _)⟩
 all_goals
  go_wp2_with fail
  refine (HM.out _).mono ?_
  rintro e w3 ⟨rfl,hb3⟩
  have Q3:=Lib.hid (PK.out _ _ Q2.out hb3)
  obtain ⟨⟨r0,r1,r2,r3⟩,f0,f1,f2,f3⟩:=HR2.out.later hb3 (World.block_lt_of_cell? _ _ HR2.out.box.kind)
  clear hb3 k0
  go_wp2
  refine bodyPost_ret (by simp [results,Tryz.results207,go_sem,r0,r1,r2,r3]; try rfl) rfl ?_
  exact ⟨by rw [HV.out]; rfl,below_set4' (PG.out _ Q3.out).2 (Nat.le_succ _)⟩
end Go.Proofs.YtdbnebhehiiakaaGreatDoor
