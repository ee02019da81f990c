/- The reference of layer 2, contract: Compare. -/
import Derived.BigQuiet
import Derived.Test.YtdbnebhehiiakaaGreatDoorS18
import Derived.Test.YtdbnebhehiiakaaGreatDoorS4
namespace Go.Proofs.YtdbnebhehiiakaaGreatDoor
open Go.RowKit
set_option maxHeartbeats 3200000 in
set_option maxRecDepth 100000 in
theorem rcompare_any (a b:List Int) (v u:Value) (w:World) (ha:Ints w v a) (hb:Ints w u b) :
  Calls Tryz.prog 81 #[v,u] w (RetV' (.int .i64 (cmpI a b)) w):=by
 have HA:=Lib.hid ha
 have HB:=Lib.hid hb
 have hla:=ha.len
 have hlb:=hb.len
 obtain ⟨p,cap,rfl,c1,c2⟩:=ha.shape
 obtain ⟨p',cap',rfl,c1',c2'⟩:=hb.shape
 obtain ⟨R,hR⟩:∃ R,R=cmpI a b:=⟨_,rfl⟩
 rw [← hR]
 have HR0:=Lib.hid hR
 clear ha hb hR
 go_enter Tryz.func81,Tryz.ntmps81
 go_wp2
 go_loopw [5] (fun iv wr => ∃ i:Nat,i≤a.length∧iv=.int .i64 (i:Nat)∧Hid (cmpI (a.drop i) (b.drop i)=R)∧i≤b.length∧Below w.heap.size w wr) (fun iv _ => a.length - (intOf iv).toNat)
 case atStart => exact ⟨0,Nat.zero_le _,rfl,HR0.out.symm,Nat.zero_le _,Below.refl _ _⟩
 case round =>
  obtain ⟨i,hi,rfl,HN,hib,hbw⟩:=hrel
  have HBW:=Lib.hid hbw
  have HAW:=Lib.hid (HA.out.later IntR.lasts hbw)
  have HBBW:=Lib.hid (HB.out.later IntR.lasts hbw)
  clear hbw
  have ib0:(0:Int)≤(i:Int):=by omega
  by_cases hlt:i<a.length
  ·have ib1:(i:Int)<(a.length:Int):=by omega
   by_cases hlt2:i<b.length
   ·have ib2:(i:Int)<(b.length:Int):=by omega
    obtain ⟨g,o,x,ea,hx,hr⟩:=HAW.out.at i hlt
    subst ea
    rw [Nat.mul_one] at hr
    unfold IntR at hr
    obtain ⟨g',o',y,ea',hy,hr'⟩:=HBBW.out.at i hlt2
    subst ea'
    rw [Nat.mul_one] at hr'
    unfold IntR at hr'
    have hn:=HN.out
    rw [cmpI_drop hx hy] at hn
    have HNN:=Lib.hid hn
    have HI1:Hid (i+1≤a.length):=hlt
    have HI3:Hid (i+1≤b.length):=hlt2
    have HI2:Hid (a.length - (i+1)<a.length - i):=by show _<_; omega
    clear hx hy hn HN
    rcases Int.lt_trichotomy x y with h1 | h1 | h1
    ·have HR:Hid (R = -1):=by show _=_; rw [← HNN.out,if_pos h1]
     go_wp2_with fail
     go_quiet (fail)
     go_wp2
     go_ret
     rw [HR.out]
     exact ⟨rfl,below_keep HBW.out (below_drewN' _ _)⟩
    ·have HR:Hid (cmpI (a.drop (i+1)) (b.drop (i+1))=R):=by show _=_; rw [← HNN.out,if_neg (by omega),if_neg (by omega)]
     subst h1
     go_wp2_with fail
     go_quiet (fail)
     go_wp2_with fail
     go_quiet (fail)
     go_wp2
     exact ⟨⟨i+1,HI1.out,by go_num,HR.out,HI3.out,by first | exact below_keep HBW.out (below_drewN' _ _) | exact below_keep (below_keep HBW.out (below_drewN' _ _)) (below_drewN' _ _) | (trace_state; fail)⟩,HI2.out⟩
    ·have HR:Hid (R=1):=by show _=_; rw [← HNN.out,if_neg (by omega),if_pos h1]
     have h2:¬ x<y:=by omega
     go_wp2_with fail
     go_quiet (fail)
     go_wp2_with fail
     go_quiet (fail)
     go_wp2
     go_ret
     rw [HR.out]
     exact ⟨rfl,below_keep (below_keep HBW.out (below_drewN' _ _)) (below_drewN' _ _)⟩
   ·obtain rfl:i=b.length:=by omega
    have hn:=HN.out
    obtain ⟨x,hx⟩:∃ x,a[b.length]? = some x:=⟨_,List.getElem?_eq_getElem hlt⟩
    rw [List.drop_length,drop_cons hx,cmpI] at hn
    have HNN:=Lib.hid hn
    have t1:¬ ((a.length:Int)<b.length):=by omega
    clear hx hn HN
    go_wp2
    go_ret
    rw [← HNN.out]
    exact ⟨rfl,HBW.out⟩
  ·obtain rfl:i=a.length:=by omega
   have hn:=HN.out
   rw [List.drop_length] at hn
   by_cases hlt2:a.length<b.length
   ·obtain ⟨y,hy⟩:∃ y,b[a.length]? = some y:=⟨_,List.getElem?_eq_getElem hlt2⟩
    rw [drop_cons hy,cmpI] at hn
    have HNN:=Lib.hid hn
    have t1:((a.length:Int)<b.length):=by omega
    clear hn HN hy
    go_wp2
    go_ret
    rw [← HNN.out]
    exact ⟨rfl,HBW.out⟩
   ·have e:a.length=b.length:=by omega
    have hn2:=hn
    rw [e,List.drop_length,cmpI] at hn2
    have HNN:=Lib.hid hn2
    have t1:¬ ((a.length:Int)<b.length):=by omega
    have t2:¬ ((b.length:Int)<a.length):=by omega
    clear hn hn2 HN e
    go_wp2
    go_ret
    rw [← HNN.out]
    exact ⟨rfl,HBW.out⟩
end Go.Proofs.YtdbnebhehiiakaaGreatDoor
