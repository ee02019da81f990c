/- Lemmas and contracts, each under its own condition: Rational numbers in memory; contracts: valid, reduced, size, Of. Contracts: size, Of, added. Contracts: added, Add, Sub, Sign, Cmp, Whole, Bits, Floor. Contracts: Add, Sub, Sign, Cmp, Whole, Bits, Floor. Contract: Floor. Plain laws of the rational numbers: their sizes, their order, the integer below. No program in sight. -/
import Derived.Deep.RegionHeld3
import Derived.Test.YtdbnebhehiiakaaGreatDoorN0
import Derived.Test.YtdbnebhehiiakaaGreatDoorN3
namespace Go.Proofs.YtdbnebhehiiakaaGreatDoor
open Go.RowKit
structure IsRAt (w:World) (g:Nat) (vn vd:Value) (q:Rat):Prop where
 neg:w.cell? ⟨g,0,none⟩=some (.bool (qneg q))
 num:w.cell? ⟨g,1,none⟩=some vn
 den:w.cell? ⟨g,2,none⟩=some vd
 isNum:IsN B32 w vn (qnum q)
 isDen:IsN B32 w vd q.den
def IsR (w:World) (v:Value) (q:Rat):Prop:=∃ g vn vd,v=.pointer (some ⟨g,0,none⟩)∧IsRAt w g vn vd q
theorem IsRAt.later {w w':World} {g:Nat} {vn vd:Value} {q:Rat} (h:IsRAt w g vn vd q) (hb:Below w.heap.size w w'):IsRAt w' g vn vd q :=
 have hg:g<w.heap.size:=World.block_lt_of_cell? w ⟨g,0,none⟩ h.neg
 ⟨(hb.cell (p:=⟨g,0,none⟩) hg).trans h.neg,(hb.cell (p:=⟨g,1,none⟩) hg).trans h.num,(hb.cell (p:=⟨g,2,none⟩) hg).trans h.den,h.isNum.later hb,h.isDen.later hb⟩
theorem IsR.later {w w':World} {v:Value} {q:Rat} (h:IsR w v q) (hb:Below w.heap.size w w'):IsR w' v q :=
 let ⟨g,vn,vd,e,h1⟩:=h; ⟨g,vn,vd,e,h1.later hb⟩
theorem IsR.trans {w w1 w':World} {v:Value} {q:Rat} (h:IsR w v q) (h1:Below w.heap.size w w1) (h2:Below w1.heap.size w1 w'):IsR w' v q:=(h.later h1).later h2
def RetR (q:Rat) (w:World) (e:Ending) (w':World):Prop:=∃ v,e=.returned v∧IsR w' v q∧Below w.heap.size w w'
theorem IsN.shape {B X:Nat} {w:World} {v:Value} (h:IsN B w v X) (hB:0<B):∃ a n cap,v=.slice a n cap∧(n=0 ↔ X=0):=by
 obtain ⟨n,D,r,s⟩:=h
 obtain ⟨a,g,cap,rfl,_⟩:=s.shape
 exact ⟨a,n,cap,rfl,r.zero_iff hB⟩
theorem valid_any {q:Rat} {v:Value} {w:World} (h:IsR w v q) :
  Calls Tryz.prog 120 #[v] w fun e w' => e=.returned (.bool true)∧w=w':=by
 obtain ⟨g,vn,vd,rfl,h⟩:=h
 obtain ⟨a,n,cap,rfl,hz⟩:=h.isDen.shape (by decide)
 have hn:0<n:=by have:=q.den_nz; omega
 have hd:=h.den
 clear h hz
 go_enter Tryz.func120,Tryz.ntmps120
 go_wp2
 go_ret
 exact ⟨rfl,rfl⟩
structure SmR (q:Rat):Prop where
 num:Sm (qnum q)
 den:Sm q.den
theorem IsR.made {w:World} {b:Bool} {vn vd:Value} {q:Rat} {t:TypeId} (hb:b=qneg q) (hn:IsN B32 w vn (qnum q)) (hd:IsN B32 w vd q.den) :
  IsR (w.alloc (.cells #[.bool b,vn,vd] t)) (.pointer (some ⟨w.heap.size,0,none⟩)) q:=by
 subst hb
 exact ⟨_,_,_,rfl,by rw [World.cell?_alloc_at _ _ _ _ rfl]; rfl,by rw [World.cell?_alloc_at _ _ _ _ rfl]; rfl,by rw [World.cell?_alloc_at _ _ _ _ rfl]; rfl,
  hn.later (below_alloc _ _),hd.later (below_alloc _ _)⟩
theorem neg_u64 {n:Int} (h1 : -9223372036854775808≤n) (h2:n<0):IntKind.u64.wrap (-IntKind.u64.wrap n)=(n.natAbs:Int):=by
 rw [wrap_u64',wrap_u64']; omega
theorem size_neg (n:Int) (w:World) (h1 : -9223372036854775808≤n) (h2:n<0) :
  Calls Tryz.prog 74 #[.int .i64 n] w (RetN B32 n.natAbs w):=by
 have e:=neg_u64 h1 h2
 have hN:=Lib.hid (natOf_any n.natAbs (by omega) w)
 go_enter Tryz.func74,Tryz.ntmps74
 go_wp2_with fail
 refine hN.out.mono ?_
 rintro e w1 ⟨v,rfl,hv,hb⟩
 go_wp2
 go_ret
 exact ⟨_,rfl,hv,hb⟩
theorem size_pos (n:Nat) (w:World) (h2:n≤9223372036854775807) :
  Calls Tryz.prog 74 #[.int .i64 (n:Int)] w (RetN B32 n w):=by
 have hN:=Lib.hid (natOf_any n (by omega) w)
 go_enter Tryz.func74,Tryz.ntmps74
 go_wp2_with fail
 refine hN.out.mono ?_
 rintro e w1 ⟨v,rfl,hv,hb⟩
 go_wp2
 go_ret
 exact ⟨_,rfl,hv,hb⟩
theorem size_any (n:Int) (w:World) (h1 : -9223372036854775808≤n) (h2:n≤9223372036854775807) :
  Calls Tryz.prog 74 #[.int .i64 n] w (RetN B32 n.natAbs w):=by
 by_cases h:n<0
 ·exact size_neg n w h1 h
 ·obtain ⟨k,rfl⟩:=Int.eq_ofNat_of_zero_le (show 0≤n by omega)
  exact size_pos k w (by omega)
theorem Sm.i64 {n:Int} (h1 : -9223372036854775808≤n) (h2:n≤9223372036854775807):Sm n.natAbs:=Sm.of_bits (k:=64) (by omega) (by decide)
def quoQ (n d:Int):Rat:=mkRat (sgn (decide (n<0) != decide (d<0)) n.natAbs) d.natAbs
structure Bd (k:Nat) (q:Rat):Prop where
 num:qnum q<2 ^ k
 den:q.den<2 ^ k
theorem mul_lt_pow {x y a b:Nat} (hx:x<2 ^ a) (hy:y<2 ^ b):x * y<2 ^ (a+b):=by
 rw [Nat.pow_add]; exact Nat.mul_lt_mul'' hx hy
theorem Bd.mono {a b:Nat} {q:Rat} (h:Bd a q) (hab:a≤b):Bd b q :=
 ⟨Nat.lt_of_lt_of_le h.num (Nat.pow_le_pow_right (by decide) hab),Nat.lt_of_lt_of_le h.den (Nat.pow_le_pow_right (by decide) hab)⟩
theorem Bd.smR {k:Nat} {q:Rat} (h:Bd k q) (hk:k≤32000000):SmR q:=⟨Sm.of_bits h.num hk,Sm.of_bits h.den hk⟩
theorem Bd.made {k n d:Nat} (neg:Bool) (hn:n<2 ^ k) (hd:d<2 ^ k) (h0:d ≠ 0):Bd k (mkRat (sgn neg n) d) :=
 ⟨by unfold qnum; rw [mk_num _ _ _ h0]; exact Nat.lt_of_le_of_lt (Nat.div_le_self _ _) hn,
  by rw [mk_den _ _ _ h0]; exact Nat.lt_of_le_of_lt (Nat.div_le_self _ _) hd⟩
theorem Bd.mul {a b:Nat} {p q:Rat} (hp:Bd a p) (hq:Bd b q):Bd (a+b) (p * q):=by
 rw [q_mul]
 exact Bd.made _ (mul_lt_pow hp.num hq.num) (mul_lt_pow hp.den hq.den) (Nat.mul_ne_zero p.den_nz q.den_nz)
theorem Bd.added {a b:Nat} {p q:Rat} (minus:Bool) (hp:Bd a p) (hq:Bd b q):Bd (a+b+1) (if minus then p - q else p+q):=by
 rw [q_added]
 have h1:=mul_lt_pow hp.num hq.den
 have h2:=mul_lt_pow hq.num hp.den
 have h3:=mul_lt_pow hp.den hq.den
 rw [Nat.add_comm b a] at h2
 have h0:p.den * q.den ≠ 0:=Nat.mul_ne_zero p.den_nz q.den_nz
 have e:2 ^ (a+b+1)=2 * 2 ^ (a+b):=by rw [Nat.pow_succ,Nat.mul_comm]
 split
 ·exact Bd.made _ (by rw [e]; omega) (by rw [e]; omega) h0
 split
 ·exact Bd.made _ (by rw [e]; omega) (by rw [e]; omega) h0
 ·exact Bd.made _ (by rw [e]; omega) (by rw [e]; omega) h0
theorem Bd.add {a b:Nat} {p q:Rat} (hp:Bd a p) (hq:Bd b q):Bd (a+b+1) (p+q):=by simpa using Bd.added false hp hq
theorem Bd.sub {a b:Nat} {p q:Rat} (hp:Bd a p) (hq:Bd b q):Bd (a+b+1) (p - q):=by simpa using Bd.added true hp hq
theorem Bd.i64 {n d:Int} (h1 : -9223372036854775808≤n) (h2:n≤9223372036854775807) (h3 : -9223372036854775808≤d) (h4:d≤9223372036854775807) (h0:d ≠ 0):Bd 64 (quoQ n d) :=
 Bd.made _ (by omega) (by omega) (by omega)
theorem Bd.one:Bd 1 1:=⟨by decide,by decide⟩
theorem Bd.zero:Bd 1 0:=⟨by decide,by decide⟩
end Go.Proofs.YtdbnebhehiiakaaGreatDoor
