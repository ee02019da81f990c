/- Lemmas and contracts, each under its own condition: Numerals as functions from places to digits: values, leading zeros, comparison. Plain arithmetic: no program in sight. Rational numbers as a sign, a numerator and a denominator without signs: how they are made, added, multiplied, divided, compared. Plain arithmetic. Long division: a digit of a quotient that is guessed from the highest digits. Plain arithmetic. Decimal numerals as lists of bytes. Plain: no program in sight. -/
namespace Go.Proofs.YtdbnebhehiiakaaGreatDoor
def fval (B:Nat) (D:Nat→Nat):Nat→Nat
 | 0 => 0
 | n+1 => fval B D n+B ^ n * D n
theorem fval_zero (B:Nat) (D:Nat→Nat):fval B D 0=0:=rfl
theorem fval_succ (B:Nat) (D:Nat→Nat) (n:Nat):fval B D (n+1)=fval B D n+B ^ n * D n:=rfl
theorem fval_congr {B:Nat} {D E:Nat→Nat} (n:Nat) (h:∀ i,i<n→D i=E i):fval B D n=fval B E n:=by
 induction n with
 | zero => rfl
 | succ n ih => rw [fval_succ,fval_succ,ih (fun i hi => h i (by omega)),h n (by omega)]
theorem fval_lt {B:Nat} {D:Nat→Nat} (n:Nat) (h:∀ i,i<n→D i<B):fval B D n<B ^ n:=by
 induction n with
 | zero => simp [fval]
 | succ n ih =>
  have h1:=ih (fun i hi => h i (by omega))
  have h2:B ^ n * (D n+1)≤B ^ n * B:=Nat.mul_le_mul_left _ (h n (by omega))
  rw [Nat.mul_add] at h2
  rw [fval_succ,Nat.pow_succ]
  omega
theorem fval_split (B:Nat) (D:Nat→Nat) (k m:Nat):fval B D (k+m)=fval B D k+B ^ k * fval B (fun i => D (k+i)) m:=by
 induction m with
 | zero => simp [fval]
 | succ m ih =>
  rw [← Nat.add_assoc,fval_succ,ih,fval_succ,Nat.mul_add,Nat.pow_add]
  simp only [Nat.mul_assoc,Nat.add_assoc]
theorem fval_const_zero (B n:Nat):fval B (fun _ => 0) n=0:=by
 induction n with
 | zero => rfl
 | succ n ih => rw [fval_succ,ih]; simp
theorem fval_zeros {B:Nat} {D:Nat→Nat} {k n:Nat} (hk:k≤n) (h:∀ i,k≤i→i<n→D i=0):fval B D n=fval B D k:=by
 obtain ⟨m,rfl⟩:∃ m,n=k+m:=⟨n - k,by omega⟩
 rw [fval_split,fval_congr (E:=fun _ => 0) m (fun i hi => h (k+i) (by omega) (by omega)),fval_const_zero]
 omega
theorem fval_first (B:Nat) (D:Nat→Nat) (n:Nat):fval B D (n+1)=D 0+B * fval B (fun i => D (i+1)) n:=by
 rw [Nat.add_comm n 1,fval_split]
 simp [fval,Nat.add_comm 1]
theorem fval_set {B:Nat} (D:Nat→Nat) (n i v:Nat) (hi:i<n):fval B (fun k => if k=i then v else D k) n+B ^ i * D i=fval B D n+B ^ i * v:=by
 induction n with
 | zero => omega
 | succ n ih =>
  rw [fval_succ,fval_succ]
  by_cases e:i=n
  ·subst e
   rw [fval_congr (E:=D) i (fun k hk => by simp; omega)]
   simp; omega
  ·have:=ih (by omega)
   rw [if_neg (by omega)]
   omega
def tlen (D:Nat→Nat):Nat→Nat
 | 0 => 0
 | n+1 => if D n=0 then tlen D n else n+1
theorem tlen_le (D:Nat→Nat) (n:Nat):tlen D n≤n:=by
 induction n with
 | zero => simp [tlen]
 | succ n ih => simp only [tlen]; split <;> omega
theorem tlen_zeros (D:Nat→Nat) (n i:Nat) (h1:tlen D n≤i) (h2:i<n):D i=0:=by
 induction n with
 | zero => omega
 | succ n ih =>
  simp only [tlen] at h1
  split at h1
  ·by_cases e:i=n
   ·subst e; assumption
   ·exact ih h1 (by omega)
  ·omega
theorem tlen_top (D:Nat→Nat) (n:Nat) (h:tlen D n ≠ 0):D (tlen D n - 1) ≠ 0:=by
 induction n with
 | zero => simp [tlen] at h
 | succ n ih =>
  simp only [tlen] at h ⊢
  split
  ·rename_i e; rw [if_pos e] at h; exact ih h
  ·simpa using ‹¬D n=0›
theorem tlen_of_top {D:Nat→Nat} {n:Nat} (h:D (n - 1) ≠ 0):tlen D n=n:=by
 cases n with
 | zero => rfl
 | succ n => simp only [Nat.add_sub_cancel] at h; simp [tlen,h]
structure Rep (B:Nat) (D:Nat→Nat) (n N:Nat):Prop where
 dig:∀ i,i<n→D i<B
 top:n ≠ 0→D (n - 1) ≠ 0
 eq:fval B D n=N
theorem Rep.zero (B:Nat) (D:Nat→Nat):Rep B D 0 0:=⟨fun i hi => by omega,fun h => absurd rfl h,rfl⟩
theorem Rep.trim {B:Nat} {D:Nat→Nat} {n:Nat} (h:∀ i,i<n→D i<B):Rep B D (tlen D n) (fval B D n) :=
 ⟨fun i hi => h i (by have:=tlen_le D n; omega),tlen_top D n,(fval_zeros (tlen_le D n) (fun i h1 h2 => tlen_zeros D n i h1 h2)).symm⟩
theorem Rep.lt {B:Nat} {D:Nat→Nat} {n N:Nat} (h:Rep B D n N):N<B ^ n:=h.eq ▸ fval_lt n h.dig
theorem Rep.ge {B:Nat} {D:Nat→Nat} {n N:Nat} (h:Rep B D n N) (hn:n ≠ 0):B ^ (n - 1)≤N:=by
 obtain ⟨m,rfl⟩:∃ m,n=m+1:=⟨n - 1,by omega⟩
 have h1:=h.top hn
 have h2:=h.eq
 simp only [Nat.add_sub_cancel] at h1 ⊢
 rw [fval_succ] at h2
 have h3:B ^ m * 1≤B ^ m * D m:=Nat.mul_le_mul_left _ (by omega)
 omega
theorem Rep.zero_iff {B:Nat} {D:Nat→Nat} {n N:Nat} (h:Rep B D n N) (hB:0<B):n=0 ↔ N=0:=by
 constructor
 ·rintro rfl; exact h.eq.symm
 ·intro e
  apply Classical.byContradiction
  intro hn
  have h1:=h.ge hn
  have h2:=Nat.pow_pos (n:=n - 1) hB
  omega
theorem Rep.len_le {B:Nat} {D:Nat→Nat} {n N k:Nat} (h:Rep B D n N) (hB:1<B) (hN:N<B ^ k):n≤k:=by
 by_cases hn:n=0
 ·omega
 ·have h1:=h.ge hn
  have h2:B ^ (n - 1)<B ^ k:=by omega
  have:=(Nat.pow_lt_pow_iff_right hB).1 h2
  omega
theorem Rep.len_mono {B:Nat} {D E:Nat→Nat} {m n M N:Nat} (hB:1<B) (h:Rep B D m M) (k:Rep B E n N) (hMN:M≤N):m≤n :=
 h.len_le hB (by have:=k.lt; omega)
theorem Rep.lt_of_len {B:Nat} {D E:Nat→Nat} {m n M N:Nat} (hB:1<B) (h:Rep B D m M) (k:Rep B E n N) (hmn:m<n):M<N:=by
 apply Classical.byContradiction
 intro e
 have:=Rep.len_mono hB k h (by omega)
 omega
theorem fval_lt_of_digit {B:Nat} {D E:Nat→Nat} {n:Nat} (hD:∀ i,i<n→D i<B) (i:Nat) (hi:i<n)
  (heq:∀ k,i<k→k<n→D k=E k) (hlt:D i<E i):fval B D n<fval B E n:=by
 obtain ⟨m,rfl⟩:∃ m,n=i+1+m:=⟨n - (i+1),by omega⟩
 rw [fval_split,fval_split B E,fval_succ,fval_succ,fval_congr (D:=fun k => D (i+1+k)) (E:=fun k => E (i+1+k)) m (fun k hk => heq _ (by omega) (by omega))]
 have h1:=fval_lt i (fun k hk => hD k (by omega))
 have h2:B ^ i * (D i+1)≤B ^ i * E i:=Nat.mul_le_mul_left _ hlt
 rw [Nat.mul_add] at h2
 omega
def cmpN (m n:Nat):Int:=if m<n then -1 else if n<m then 1 else 0
def sgn (neg:Bool) (n:Nat):Int:=if neg then -(n:Int) else n
theorem sgn_natAbs (neg:Bool) (n:Nat):(sgn neg n).natAbs=n:=by unfold sgn; split <;> simp
theorem sgn_neg_iff (neg:Bool) (n:Nat):sgn neg n<0 ↔ neg=true∧n ≠ 0:=by
 unfold sgn; cases neg <;> simp <;> omega
theorem sgn_self (z:Int):sgn (decide (z<0)) z.natAbs=z:=by
 unfold sgn; by_cases h:z<0 <;> simp [h] <;> omega
theorem sgn_mul (a b:Bool) (m n:Nat):sgn a m * sgn b n=sgn (a != b) (m * n):=by
 unfold sgn; cases a <;> cases b <;> simp [Int.neg_mul,Int.mul_neg]
theorem mk_den (neg:Bool) (num den:Nat) (hd:den ≠ 0):(mkRat (sgn neg num) den).den=den / Nat.gcd num den:=by
 rw [Rat.den_mkRat,if_neg hd,sgn_natAbs,Nat.gcd_comm]
theorem mk_num (neg:Bool) (num den:Nat) (hd:den ≠ 0):(mkRat (sgn neg num) den).num.natAbs=num / Nat.gcd num den:=by
 rw [Rat.num_mkRat,if_neg hd,sgn_natAbs,Nat.gcd_comm den num]
 rw [Int.natAbs_ediv_of_dvd (Int.ofNat_dvd_left.2 (by rw [sgn_natAbs]; exact Nat.gcd_dvd_left _ _)),sgn_natAbs,Int.natAbs_natCast]
theorem mk_neg (neg:Bool) (num den:Nat) (hd:den ≠ 0):decide ((mkRat (sgn neg num) den).num<0)=(neg && decide (num ≠ 0)):=by
 have hg:0<Nat.gcd num den:=Nat.gcd_pos_of_pos_right _ (by omega)
 rw [Rat.num_mkRat,if_neg hd,sgn_natAbs,Nat.gcd_comm den num]
 rw [Bool.eq_iff_iff,Bool.and_eq_true,decide_eq_true_eq,decide_eq_true_eq,← sgn_neg_iff]
 constructor
 ·intro h
  apply Classical.byContradiction
  intro h2
  have:=Int.ediv_nonneg (a:=sgn neg num) (b:=(Nat.gcd num den:Nat)) (by omega) (by omega)
  omega
 ·intro h
  have:=Int.ediv_neg_of_neg_of_pos h (b:=(Nat.gcd num den:Nat)) (by omega)
  exact this
def qneg (q:Rat):Bool:=decide (q.num<0)
def qnum (q:Rat):Nat:=q.num.natAbs
theorem q_self (q:Rat):mkRat (sgn (qneg q) (qnum q)) q.den=q:=by
 unfold qneg qnum; rw [sgn_self,Rat.mkRat_self]
theorem q_num (q:Rat):q.num=sgn (qneg q) (qnum q):=(sgn_self _).symm
theorem q_neg_zero {q:Rat} (h:qnum q=0):qneg q=false:=by
 unfold qneg qnum at *; rw [decide_eq_false_iff_not]; omega
theorem q_coprime (q:Rat):Nat.gcd (qnum q) q.den=1:=q.reduced
theorem q_added (p q:Rat) (minus:Bool):(if minus then p - q else p+q) =
  (if qneg p=(qneg q != minus) then mkRat (sgn (qneg q != minus) (qnum p * q.den+qnum q * p.den)) (p.den * q.den)
   else if qnum q * p.den≤qnum p * q.den then mkRat (sgn (qneg p) (qnum p * q.den - qnum q * p.den)) (p.den * q.den)
   else mkRat (sgn (qneg q != minus) (qnum q * p.den - qnum p * q.den)) (p.den * q.den)):=by
 have e:(if minus then p - q else p+q)=mkRat (sgn (qneg p) (qnum p) * q.den+sgn (qneg q != minus) (qnum q) * p.den) (p.den * q.den):=by
  cases minus
  ·simp only [Bool.false_eq_true,if_false,Bool.bne_false]
   rw [Rat.add_def',← q_num p,← q_num q]
  ·simp only [if_true]
   rw [Rat.sub_def',← q_num p]
   congr 1
   have:sgn (qneg q != true) (qnum q) = - q.num:=by
    rw [q_num q]; unfold sgn; cases qneg q <;> simp
   rw [this,Int.neg_mul]; rfl
 rw [e]
 have c1:((qnum p * q.den:Nat):Int)=(qnum p:Int) * (q.den:Int):=by simp
 have c2:((qnum q * p.den:Nat):Int)=(qnum q:Int) * (p.den:Int):=by simp
 generalize (qneg q != minus)=b
 generalize qneg p=a
 split
 ·subst a
  congr 1
  unfold sgn
  cases b <;> simp [Int.neg_mul] <;> omega
 ·split
  ·congr 1
   unfold sgn
   cases a <;> cases b <;> simp_all [Int.neg_mul,Int.ofNat_sub] <;> omega
  ·congr 1
   unfold sgn
   cases a <;> cases b <;> simp_all [Int.neg_mul] <;> omega
theorem q_mul (p q:Rat):p * q=mkRat (sgn (qneg p != qneg q) (qnum p * qnum q)) (p.den * q.den):=by
 rw [Rat.mul_def',q_num p,q_num q,sgn_mul]
theorem guess_ge {V U high v1 Bn:Nat} (hV:v1 * Bn≤V) (hU:U<(high+1) * Bn) (hv:0<v1):U / V≤high / v1:=by
 rw [Nat.le_div_iff_mul_le hv]
 have h1:U / V * V≤U:=Nat.div_mul_le_self U V
 have h2:U / V * v1 * Bn≤U / V * V:=by rw [Nat.mul_assoc]; exact Nat.mul_le_mul_left _ hV
 have h3:U / V * v1 * Bn<(high+1) * Bn:=by omega
 have:=Nat.lt_of_mul_lt_mul_right h3
 omega
theorem guess_step {B V U g r v1 v2 u2 high Bn:Nat} (hV:(v1 * B+v2) * Bn≤V) (hU:U<(high * B+u2+1) * Bn)
  (hg:g * v1+r=high) (ht:r * B+u2<g * v2):U / V<g:=by
 have h1:high * B+u2+1≤g * (v1 * B+v2):=by
  rw [← hg,Nat.mul_add,Nat.add_mul,Nat.mul_assoc]; omega
 have h2:(high * B+u2+1) * Bn≤g * (v1 * B+v2) * Bn:=Nat.mul_le_mul_right _ h1
 have h3:g * (v1 * B+v2) * Bn≤g * V:=by rw [Nat.mul_assoc]; exact Nat.mul_le_mul_left _ hV
 have h4:U<g * V:=by omega
 exact Nat.div_lt_of_lt_mul (by rwa [Nat.mul_comm])
theorem guess_le {B V U g r v1 v2 vl u2 high Bn:Nat} (hV:V=(v1 * B+v2) * Bn+vl) (hvl:vl<Bn) (hU:(high * B+u2) * Bn≤U)
  (hg:g * v1+r=high) (ht:g * v2≤r * B+u2) (hgB:g<B) (hv1:0<v1):g≤U / V+1:=by
 have h1:g * (v1 * B+v2)≤high * B+u2:=by
  rw [← hg,Nat.mul_add,Nat.add_mul,Nat.mul_assoc]; omega
 have h2:g * (v1 * B+v2) * Bn≤U:=Nat.le_trans (Nat.mul_le_mul_right _ h1) hU
 have h3:g * vl≤g * Bn:=Nat.mul_le_mul_left _ (Nat.le_of_lt hvl)
 have h4:g * Bn≤B * Bn:=Nat.mul_le_mul_right _ (Nat.le_of_lt hgB)
 have h5:B * Bn≤V:=by
  rw [hV,Nat.add_mul]
  have:B * Bn≤v1 * B * Bn:=Nat.mul_le_mul_right _ (Nat.le_mul_of_pos_left B hv1)
  omega
 have hVpos:0<V:=by
  have:0<B * Bn:=Nat.mul_pos (by omega) (by omega)
  omega
 have e:g * V=g * (v1 * B+v2) * Bn+g * vl:=by rw [hV,Nat.mul_add,Nat.mul_assoc]
 have h6:g * V≤U+V:=by omega
 have h7:(g - 1) * V≤U:=by rw [Nat.sub_mul]; omega
 have:=(Nat.le_div_iff_mul_le hVpos).2 h7
 omega
theorem rest_break {B v1 v2 u1 u2 un g r:Nat} (hg:g * v1+r=un * B+u1) (hun:un≤v1) (hu1:u1<B) (hr:B≤r) (hv2:v2<B) :
  g<B∧g * v2≤r * B+u2:=by
 have h1:g<B:=by
  apply Classical.byContradiction
  intro h
  have h2:B * v1≤g * v1:=Nat.mul_le_mul_right _ (by omega)
  have h3:un * B≤v1 * B:=Nat.mul_le_mul_right _ hun
  rw [Nat.mul_comm B v1] at h2
  omega
 refine ⟨h1,?_⟩
 have h2:g * v2≤B * B:=Nat.mul_le_mul (Nat.le_of_lt h1) (Nat.le_of_lt hv2)
 have h3:B * B≤r * B:=Nat.mul_le_mul_right _ hr
 omega
theorem mulsub_step {B L s x g v c cl ch b b' r p q:Nat} (h:s+g * q=p+L * (c+b)) (hc:c+g * v=cl+B * ch) (hr:r+cl+b=x+B * b') :
  (s+L * r)+g * (q+L * v)=(p+L * x)+L * B * (ch+b'):=by
 have e1:L * (c+g * v)=L * (cl+B * ch):=by rw [hc]
 have e2:L * (r+cl+b)=L * (x+B * b'):=by rw [hr]
 simp only [Nat.mul_add,← Nat.mul_assoc] at *
 rw [Nat.mul_comm g L]
 omega
structure Div (B n:Nat) (U V:Nat→Nat):Prop where
 two:2≤n
 udig:∀ i,i<n+1→U i<B
 vdig:∀ i,i<n→V i<B
 half:B≤2 * V (n - 1)
 less:fval B U (n+1)<fval B V n * B
 base:2≤B
theorem Div.vpos {B n:Nat} {U V:Nat→Nat} (h:Div B n U V):0<V (n - 1):=by have:=h.half; have:=h.base; omega
theorem Div.v_parts {B n:Nat} {U V:Nat→Nat} (h:Div B n U V):fval B V n=(V (n - 1) * B+V (n - 2)) * B ^ (n - 2)+fval B V (n - 2):=by
 obtain ⟨k,rfl⟩:∃ k,n=k+2:=⟨n - 2,by have:=h.two; omega⟩
 rw [show k+2=(k+1)+1 from rfl,fval_succ,fval_succ,Nat.pow_succ]
 simp only [Nat.add_sub_cancel,show k+1+1 - 2=k from rfl]
 generalize B ^ k=L
 generalize fval B V k=s
 rw [Nat.add_mul,Nat.mul_comm (V (k+1)) B,Nat.mul_comm (V k) L,Nat.mul_comm (B * V (k+1)) L,Nat.mul_assoc]
 omega
theorem Div.u_parts {B n:Nat} {U V:Nat→Nat} (h:Div B n U V):fval B U (n+1)=((U n * B+U (n - 1)) * B+U (n - 2)) * B ^ (n - 2)+fval B U (n - 2):=by
 obtain ⟨k,rfl⟩:∃ k,n=k+2:=⟨n - 2,by have:=h.two; omega⟩
 rw [fval_succ,show k+2=(k+1)+1 from rfl,fval_succ,fval_succ]
 simp only [Nat.add_sub_cancel,show k+1+1 - 2=k from rfl,Nat.pow_succ]
 generalize B ^ k=L
 generalize fval B U k=s
 simp only [Nat.add_mul]
 have e1:L * B * U (k+1)=U (k+1) * B * L:=by rw [Nat.mul_comm L B,Nat.mul_comm (B * L),Nat.mul_assoc]
 have e2:L * B * B * U (k+1+1)=U (k+1+1) * B * B * L:=by
  rw [Nat.mul_comm (L * B * B),Nat.mul_assoc L,Nat.mul_comm L,← Nat.mul_assoc,← Nat.mul_assoc]
 rw [e1,e2,Nat.mul_comm L (U k)]
 omega
theorem Div.low {B n:Nat} {U V:Nat→Nat} (h:Div B n U V):fval B V (n - 2)<B ^ (n - 2)∧fval B U (n - 2)<B ^ (n - 2) :=
 ⟨fval_lt _ (fun i hi => h.vdig i (by omega)),fval_lt _ (fun i hi => h.udig i (by omega))⟩
theorem Div.top {B n:Nat} {U V:Nat→Nat} (h:Div B n U V):U n≤V (n - 1):=by
 have h1:=h.less
 have h2:U n * B ^ n≤fval B U (n+1):=by rw [fval_succ,Nat.mul_comm]; omega
 have h3:fval B V n<(V (n - 1)+1) * B ^ (n - 1):=by
  obtain ⟨k,rfl⟩:∃ k,n=k+1:=⟨n - 1,by have:=h.two; omega⟩
  have:=fval_lt k (fun i hi => h.vdig i (by omega))
  rw [fval_succ,Nat.add_sub_cancel,Nat.add_mul,Nat.mul_comm (V k)]
  omega
 have h4:fval B V n * B≤(V (n - 1)+1) * B ^ (n - 1) * B:=Nat.mul_le_mul_right _ (Nat.le_of_lt h3)
 have e:B ^ (n - 1) * B=B ^ n:=by
  obtain ⟨k,rfl⟩:∃ k,n=k+1:=⟨n - 1,by have:=h.two; omega⟩
  rw [Nat.pow_succ]; rfl
 rw [Nat.mul_assoc,e] at h4
 have h5:U n * B ^ n<(V (n - 1)+1) * B ^ n:=by omega
 have:=Nat.lt_of_mul_lt_mul_right h5
 omega
structure Guess (B n:Nat) (U V:Nat→Nat) (g r:Nat):Prop where
 eq:g * V (n - 1)+r=U n * B+U (n - 1)
 ge:fval B U (n+1) / fval B V n≤g
 rest:r<B
theorem Div.vtop {B n:Nat} {U V:Nat→Nat} (h:Div B n U V):V (n - 1)<B:=h.vdig _ (by have:=h.two; omega)
theorem Guess.first {B n:Nat} {U V:Nat→Nat} (h:Div B n U V) :
  Guess B n U V ((U n * B+U (n - 1)) / V (n - 1)) ((U n * B+U (n - 1)) % V (n - 1)):=by
 have hv:=h.vpos
 refine ⟨?_,?_,?_⟩
 ·rw [Nat.mul_comm]; exact Nat.div_add_mod _ _
 ·refine guess_ge (Bn:=B ^ (n - 1)) ?_ ?_ hv
  ·obtain ⟨k,rfl⟩:∃ k,n=k+1:=⟨n - 1,by have:=h.two; omega⟩
   rw [fval_succ,Nat.add_sub_cancel,Nat.mul_comm]; omega
  ·have h1:=h.u_parts
   have h2:=h.low.2
   have h3:=h.udig (n - 2) (by omega)
   have e:B ^ (n - 1)=B * B ^ (n - 2):=by
    obtain ⟨k,rfl⟩:∃ k,n=k+2:=⟨n - 2,by have:=h.two; omega⟩
    rw [show k+2 - 1=k+1 from rfl,Nat.pow_succ,Nat.mul_comm]; rfl
   rw [e,← Nat.mul_assoc,h1]
   generalize U n * B+U (n - 1)=H
   rw [Nat.add_mul H 1 B,Nat.one_mul]
   have h4:(U (n - 2)+1) * B ^ (n - 2)≤B * B ^ (n - 2):=Nat.mul_le_mul_right _ h3
   rw [Nat.add_mul,Nat.one_mul] at h4
   rw [Nat.add_mul,Nat.add_mul]
   omega
 ·exact Nat.lt_trans (Nat.mod_lt _ hv) h.vtop
theorem Guess.down {B n g r:Nat} {U V:Nat→Nat} (h:Div B n U V) (k:Guess B n U V g r) (ht:B≤g ∨ r * B+U (n - 2)<g * V (n - 2)) :
  0<g∧(g - 1) * V (n - 1)+(r+V (n - 1))=U n * B+U (n - 1)∧fval B U (n+1) / fval B V n≤g - 1:=by
 have hVpos:0<fval B V n:=by
  apply Nat.pos_of_ne_zero
  intro e
  have:=h.less
  rw [e] at this
  omega
 have hlt:fval B U (n+1) / fval B V n<g:=by
  rcases ht with ht | ht
  ·exact Nat.lt_of_lt_of_le (Nat.div_lt_of_lt_mul h.less) ht
  ·refine guess_step (B:=B) (Bn:=B ^ (n - 2)) (v1:=V (n - 1)) (v2:=V (n - 2)) (u2:=U (n - 2)) (high:=U n * B+U (n - 1)) ?_ ?_ k.eq ht
   ·rw [h.v_parts]; omega
   ·rw [h.u_parts,Nat.add_mul _ 1,Nat.one_mul]
    have:=h.low.2
    omega
 have hpos:0<g:=Nat.lt_of_le_of_lt (Nat.zero_le _) hlt
 refine ⟨hpos,?_,Nat.le_sub_one_of_lt hlt⟩
 clear hlt
 have e:=k.eq
 obtain ⟨j,rfl⟩:∃ j,g=j+1:=⟨g - 1,by omega⟩
 rw [Nat.add_mul,Nat.one_mul] at e
 rw [Nat.add_sub_cancel]
 omega
structure Guessed (B n:Nat) (U V:Nat→Nat) (g:Nat):Prop where
 lt:g<B
 ge:fval B U (n+1) / fval B V n≤g
 le:g≤fval B U (n+1) / fval B V n+1
theorem Guessed.of_test {B n g r:Nat} {U V:Nat→Nat} (h:Div B n U V) (heq:g * V (n - 1)+r=U n * B+U (n - 1)) (hge:fval B U (n+1) / fval B V n≤g)
  (hlt:g<B) (ht:g * V (n - 2)≤r * B+U (n - 2)):Guessed B n U V g :=
 ⟨hlt,hge,guess_le (B:=B) (Bn:=B ^ (n - 2)) (vl:=fval B V (n - 2)) (v1:=V (n - 1)) (v2:=V (n - 2)) (u2:=U (n - 2)) (high:=U n * B+U (n - 1)) h.v_parts h.low.1
  (by rw [h.u_parts]; omega) heq ht hlt h.vpos⟩
theorem Guessed.of_break {B n g r:Nat} {U V:Nat→Nat} (h:Div B n U V) (heq:g * V (n - 1)+r=U n * B+U (n - 1)) (hge:fval B U (n+1) / fval B V n≤g)
  (hr:B≤r):Guessed B n U V g :=
 have h1:=rest_break (u2:=U (n - 2)) (v2:=V (n - 2)) heq h.top (h.udig _ (by omega)) hr (h.vdig _ (by have:=h.two; omega))
 Guessed.of_test h heq hge h1.1 h1.2
theorem Guess.bound {B n g r:Nat} {U V:Nat→Nat} (h:Div B n U V) (k:Guess B n U V g r):g≤B+1:=by
 apply Classical.byContradiction
 intro hg
 have h1:=h.top
 have h2:=h.udig (n - 1) (by omega)
 have h3:=h.half
 have h4:(B+2) * V (n - 1)≤g * V (n - 1):=Nat.mul_le_mul_right _ (by omega)
 have h5:U n * B≤V (n - 1) * B:=Nat.mul_le_mul_right _ h1
 have h6:=k.eq
 rw [Nat.add_mul] at h4
 rw [Nat.mul_comm (V (n - 1))] at h5
 omega
theorem fin_zero {x g U V:Nat} (hV:0<V) (hge:U / V≤g) (h:x+g * V=U):g=U / V∧x=U % V:=by
 have h1:g≤U / V:=(Nat.le_div_iff_mul_le hV).2 (by omega)
 have h2:g=U / V:=by omega
 subst h2
 have h3:=Nat.div_add_mod U V
 rw [Nat.mul_comm] at h3
 exact ⟨rfl,by omega⟩
theorem fin_one {x g U V P:Nat} (hge:U / V≤g) (hle:g≤U / V+1) (h:x+g * V=U+P) (hx:x<P):g=U / V+1∧x+V=U % V+P:=by
 have h3:=Nat.div_add_mod U V
 rw [Nat.mul_comm] at h3
 generalize U / V=q at *
 have h4:g=q ∨ g=q+1:=by omega
 rcases h4 with rfl | rfl
 ·omega
 ·rw [Nat.add_mul,Nat.one_mul] at h
  exact ⟨rfl,by omega⟩
theorem fin_mod {R P W e:Nat} (hR:R<P) (hW:W<P) (h:R+P=W+P * e):W=R:=by
 have h1:=congrArg (· % P) h
 simp only [Nat.add_mod_right,Nat.add_mul_mod_self_left,Nat.mod_eq_of_lt hR,Nat.mod_eq_of_lt hW] at h1
 exact h1.symm
theorem Div.Vpos {B n:Nat} {U V:Nat→Nat} (h:Div B n U V):0<fval B V n:=by
 apply Nat.pos_of_ne_zero
 intro e
 have:=h.less
 rw [e] at this
 omega
def dchar (d:Nat):UInt8:=UInt8.ofNat (48+d)
theorem dchar_toNat {d:Nat} (h:d<10):(dchar d).toNat=48+d:=by
 unfold dchar; rw [UInt8.toNat_ofNat']; omega
def isD (c:UInt8):Bool:=decide (48≤c.toNat) && decide (c.toNat≤57)
theorem isD_iff (c:UInt8):isD c=true ↔ 48≤c.toNat∧c.toNat≤57:=by simp [isD]
theorem dchar_isD {d:Nat} (h:d<10):isD (dchar d)=true:=by rw [isD_iff,dchar_toNat h]; omega
theorem dchar_of {c:UInt8} (h:isD c=true):dchar (c.toNat - 48)=c:=by
 rw [isD_iff] at h
 apply UInt8.toNat_inj.1
 rw [dchar_toNat (by omega)]; omega
def decF:Nat→Nat→List UInt8
 | 0,_ => []
 | f+1,n => if n<10 then [dchar n] else decF f (n / 10) ++ [dchar (n % 10)]
def dec (n:Nat):List UInt8:=decF (n+1) n
theorem decF_eq:∀ f g n,n<f→n<g→decF f n=decF g n:=by
 intro f
 induction f with
 | zero => intro g n h; omega
 | succ f ih =>
  intro g n h1 h2
  obtain ⟨g,rfl⟩:∃ k,g=k+1:=⟨g - 1,by omega⟩
  simp only [decF]
  by_cases h:n<10
  ·simp [h]
  ·simp only [h,if_false]
   rw [ih g (n / 10) (by omega) (by omega)]
theorem dec_small {n:Nat} (h:n<10):dec n=[dchar n]:=by simp [dec,decF,h]
theorem dec_big {n:Nat} (h:10≤n):dec n=dec (n / 10) ++ [dchar (n % 10)]:=by
 unfold dec
 rw [decF,if_neg (by omega),decF_eq n (n / 10+1) (n / 10) (by omega) (by omega)]
theorem dec_step {m d:Nat} (hm:0<m) (hd:d<10):dec (10 * m+d)=dec m ++ [dchar d]:=by
 rw [dec_big (by omega)]
 congr 2
 ·congr 1; omega
 ·congr 1; omega
theorem dec_ne (n:Nat):dec n ≠ []:=by
 by_cases h:n<10
 ·rw [dec_small h]; simp
 ·rw [dec_big (by omega)]; simp
def dval (l:List UInt8):Nat:=l.foldl (fun a c => 10 * a+(c.toNat - 48)) 0
theorem dval_nil:dval []=0:=rfl
theorem dval_snoc (l:List UInt8) (c:UInt8):dval (l ++ [c])=10 * dval l+(c.toNat - 48):=by simp [dval]
def parseD (l:List UInt8):Option Nat:=if l ≠ []∧(l.head? = some 48→l=[48])∧l.all isD=true then some (dval l) else none
theorem snoc_cases (l:List UInt8):l=[] ∨ ∃ xs c,l=xs ++ [c]:=by
 by_cases h:l=[]
 ·exact .inl h
 ·exact .inr ⟨l.dropLast,l.getLast h,(List.dropLast_concat_getLast h).symm⟩
theorem dval_pos {l:List UInt8} (hne:l ≠ []) (hh:l.head? ≠ some 48) (hd:l.all isD=true):0<dval l:=by
 generalize hn:l.length=n
 induction n generalizing l with
 | zero => exact absurd (List.length_eq_zero_iff.1 hn) hne
 | succ n ih =>
  rcases snoc_cases l with rfl | ⟨xs,c,rfl⟩
  ·exact absurd rfl hne
  ·rw [dval_snoc]
   simp only [List.all_append,Bool.and_eq_true] at hd
   by_cases hx:xs=[]
   ·subst hx
    have hc:isD c=true:=by simpa using hd.2
    rw [isD_iff] at hc
    have:c ≠ 48:=by intro e; apply hh; simp [e]
    have h2:c.toNat ≠ 48:=fun e => this (UInt8.toNat_inj.1 (by simpa using e))
    simp [dval_nil]; omega
   ·have:=ih hx (by intro e; apply hh; rw [List.head?_append]; simp [e]) hd.1 (by simpa using hn)
    omega
theorem dec_of_digits {l:List UInt8} (hne:l ≠ []) (hh:l.head? = some 48→l=[48]) (hd:l.all isD=true):dec (dval l)=l:=by
 generalize hn:l.length=n
 induction n generalizing l with
 | zero => exact absurd (List.length_eq_zero_iff.1 hn) hne
 | succ n ih =>
  rcases snoc_cases l with rfl | ⟨xs,c,rfl⟩
  ·exact absurd rfl hne
  ·rw [dval_snoc]
   simp only [List.all_append,Bool.and_eq_true] at hd
   have hc:isD c=true:=by simpa using hd.2
   have hc':=(isD_iff c).1 hc
   by_cases hx:xs=[]
   ·subst hx
    rw [dval_nil,Nat.mul_zero,Nat.zero_add,dec_small (by omega),dchar_of hc]; rfl
   ·have hxh:xs.head? ≠ some 48:=by
     intro e
     have h1:=hh (by rw [List.head?_append]; simp [e])
     have:=congrArg List.length h1
     simp at this
     exact hx this
    have hp:=dval_pos hx hxh hd.1
    rw [dec_step hp (by omega),dchar_of hc,ih hx (fun e => absurd e hxh) hd.1 (by simpa using hn)]
theorem dec_parts (n:Nat):dec n ≠ []∧((dec n).head? = some 48→dec n=[48])∧(dec n).all isD=true∧dval (dec n)=n:=by
 induction n using Nat.strongRecOn with
 | _ n ih =>
  by_cases h:n<10
  ·rw [dec_small h]
   refine ⟨by simp,fun e => by simpa using e,by simpa using dchar_isD h,?_⟩
   simp [dval,dchar_toNat h]
  ·obtain ⟨h1,h2,h3,h4⟩:=ih (n / 10) (by omega)
   rw [dec_big (by omega)]
   refine ⟨by simp,fun e => ?_,?_,?_⟩
   ·exfalso
    have e1:(dec (n / 10)).head? = some 48:=by
     rw [List.head?_append] at e
     cases hd:(dec (n / 10)).head? with
     | none => rw [List.head?_eq_none_iff] at hd; exact absurd hd h1
     | some x => rw [hd] at e; simpa using e
    have e2:=h2 e1
    rw [e2] at h4
    have:(0:Nat)=n / 10:=by simpa [dval] using h4
    omega
   ·rw [List.all_append,h3]; simp [dchar_isD (show n % 10<10 by omega)]
   ·rw [dval_snoc,h4,dchar_toNat (by omega)]; omega
theorem parseD_dec (n:Nat):parseD (dec n)=some n:=by
 obtain ⟨h1,h2,h3,h4⟩:=dec_parts n
 rw [parseD,if_pos ⟨h1,h2,h3⟩,h4]
theorem parseD_iff (l:List UInt8) (n:Nat):parseD l=some n ↔ l=dec n:=by
 constructor
 ·intro h
  unfold parseD at h
  split at h
  ·rename_i hc
   cases h
   exact (dec_of_digits hc.1 hc.2.1 hc.2.2).symm
  ·exact absurd h (by simp)
 ·rintro rfl; exact parseD_dec n
theorem dec_inj {m n:Nat} (h:dec m=dec n):m=n:=by
 have:=parseD_dec m
 rw [h,parseD_dec] at this
 exact (Option.some.inj this).symm
end Go.Proofs.YtdbnebhehiiakaaGreatDoor
