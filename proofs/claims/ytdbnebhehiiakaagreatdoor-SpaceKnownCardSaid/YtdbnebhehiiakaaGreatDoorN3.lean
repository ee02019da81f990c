/- Lemmas and contracts, each under its own condition: Contract: digitOf, a digit of a quotient, found in place. Long division: the plain part of div. bits.LeadingZeros32, bits.Len32, in the words of the proofs. Contract: div. Contract: div, the long way. Contracts: gcd, length. -/
import Derived.Deep.DeepCutAuto
import Derived.Deep.CutBlock
import Derived.StillTailTactics
import Derived.Deep.RegionWith
import Derived.Deep.LoopGhost
import Derived.Test.YtdbnebhehiiakaaGreatDoorN0
import Derived.Test.YtdbnebhehiiakaaGreatDoorN1
import Derived.Test.YtdbnebhehiiakaaGreatDoorN2
import Derived.Test.YtdbnebhehiiakaaGreatDoorShlf
namespace Go.Proofs.YtdbnebhehiiakaaGreatDoor
open Go.RowKit
structure Upd (w w':World) (g lo hi:Nat):Prop where
 os:w'.os=w.os
 tape:w'.tape=w.tape
 output:w'.output=w.output
 size:w'.heap.size=w.heap.size
 block:∀ k,k ≠ g→w'.heap[k]? = w.heap[k]?
 out:∀ j,(j<lo ∨ hi≤j)→w'.cell? ⟨g,j,none⟩=w.cell? ⟨g,j,none⟩
 free:∀ a,w'.frozen? a=w.frozen? a
theorem Upd.refl (w:World) (g lo hi:Nat):Upd w w g lo hi:=⟨rfl,rfl,rfl,rfl,fun _ _ => rfl,fun _ _ => rfl,fun _ => rfl⟩
theorem Upd.set {w w':World} {g lo hi:Nat} (h:Upd w w' g lo hi) (j:Nat) (v:Value) (h1:lo≤j) (h2:j<hi):Upd w (w'.setCell ⟨g,j,none⟩ v) g lo hi :=
 ⟨h.os,h.tape,h.output,by rw [← h.size]; simp [World.setCell],fun k hk => by rw [Below.heap_setCell _ _ _ _ hk]; exact h.block k hk,
  fun i hi' => by rw [World.cell?_setCell_other w' ⟨g,j,none⟩ ⟨g,i,none⟩ _ (fun e => by injection e with _ e2; omega)]; exact h.out i hi',fun a => by rw [World.frozen?_setCell]; exact h.free a⟩
theorem Upd.drewN {w w':World} {g lo hi:Nat} (h:Upd w w' g lo hi) (n:Nat):Upd w (w'.drewN n) g lo hi:=⟨h.os,h.tape,h.output,h.size,h.block,h.out,h.free⟩
theorem Upd.other {w w':World} {g lo hi:Nat} (h:Upd w w' g lo hi) {g' n:Nat} {D:Nat→Nat} (hg:g' ≠ g) (hc:Cells w g' n D):Cells w' g' n D:=fun i hi => by
 rw [World.cell?_of_block (w:=w) (h.block g' hg)]; exact hc i hi
theorem Upd.below {w w':World} {g lo hi B:Nat} (h:Upd w w' g lo hi) (hB:B≤g):Below B w w':=⟨h.os,h.tape,h.output,by rw [h.size]; exact Nat.le_refl _,fun k hk => h.block k (by omega)⟩
structure ArrAt (w:World) (g off n:Nat) (D:Nat→Nat):Prop where
 cell:∀ i,i<n→w.cell? ⟨g,off+i,none⟩=some (.int .u32 (D i))
 free:∀ i,w.frozen? ⟨g,i,none⟩=false
theorem ArrAt.set {w:World} {g off n:Nat} {D:Nat→Nat} (h:ArrAt w g off n D) (i v:Nat) (hi:i<n) {z:Value} (hz:z=.int .u32 (v:Int)) :
  ArrAt (w.setCell ⟨g,off+i,none⟩ z) g off n (putD D i v):=by
 subst hz
 refine ⟨fun k hk => ?_,fun k => ?_⟩
 ·by_cases e:k=i
  ·subst e
   rw [putD_same]
   exact World.cell?_setCell_same w ⟨g,off+k,none⟩ _ (h.cell k hk)
  ·rw [putD_other _ _ _ _ e,World.cell?_setCell_other w ⟨g,off+i,none⟩ ⟨g,off+k,none⟩ _ (fun h' => e (by injection h' with _ h2; omega))]
   exact h.cell k hk
 ·rw [World.frozen?_setCell]; exact h.free k
theorem ArrAt.drewN {w:World} {g off n:Nat} {D:Nat→Nat} (h:ArrAt w g off n D) (k:Nat):ArrAt (w.drewN k) g off n D:=⟨h.cell,h.free⟩
def RetDig (g off n:Nat) (U V:Nat→Nat) (w:World) (e:Ending) (w':World):Prop :=
 ∃ U',e=.returned (.int .u32 ((fval B32 U (n+1) / fval B32 V n:Nat):Int))∧ArrAt w' g off (n+1) U'∧(∀ i,i<n+1→U' i<B32) ∧
  fval B32 U' (n+1)=fval B32 U (n+1) % fval B32 V n∧Upd w w' g off (off+n+1)
def mLo (c g v:Nat):Nat:=(c+g * v) % B32
def mHi (c g v:Nat):Nat:=(c+g * v) / B32
theorem m_eq (c g v:Nat):c+g * v=mLo c g v+B32 * mHi c g v:=(Nat.mod_add_div _ _).symm
theorem mLo_lt (c g v:Nat):mLo c g v<B32:=Nat.mod_lt _ (by decide)
theorem mHi_lt {c g v:Nat} (hc:c<B32) (hg:g<B32) (hv:v<B32):mHi c g v<B32:=by
 have h:g * v≤4294967295 * 4294967295:=Nat.mul_le_mul (by unfold B32 at hg; omega) (by unfold B32 at hv; omega)
 unfold mHi; unfold B32 at *; omega
theorem mLo_int (c g v:Nat):((c:Int)+(g:Int) * (v:Int)) % 4294967296=(mLo c g v:Int):=by simp [mLo,B32]
theorem mHi_int (c g v:Nat):((c:Int)+(g:Int) * (v:Int)) / 4294967296=(mHi c g v:Int):=by simp [mHi,B32]
structure MSInv (w:World) (g off n:Nat) (U V:Nat→Nat) (gs k b c:Nat) (T:Nat→Nat) (wr:World):Prop where
 arr:ArrAt wr g off (n+1) T
 upd:Upd w wr g off (off+n+1)
 dig:∀ i,i<k→T i<B32
 same:∀ i,k≤i→i<n+1→T i=U i
 borrow:b≤1
 carry:c<B32
 eq:fval B32 T k+gs * fval B32 V k=fval B32 U k+B32 ^ k * (c+b)
theorem MSInv.step {w wr:World} {g off n gs k b c:Nat} {U V T:Nat→Nat} (h:MSInv w g off n U V gs k b c T wr) (hk:k<n) (hU:U k<B32) (hV:V k<B32) (hg:gs<B32) :
  MSInv w g off n U V gs (k+1) (subHi (U k) (mLo c gs (V k)) b) (mHi c gs (V k)) (putD T k (subLo (U k) (mLo c gs (V k)) b))
   (wr.setCell ⟨g,off+k,none⟩ (.int .u32 (subLo (U k) (mLo c gs (V k)) b))):=by
 refine ⟨h.arr.set _ _ (by omega) rfl,h.upd.set _ _ (by omega) (by omega),fun i hi => ?_,fun i h1 h2 => ?_,subHi_le _ _ _,mHi_lt h.carry hg hV,?_⟩
 ·by_cases e:i=k
  ·subst e; rw [putD_same]; exact subLo_lt _ _ _
  ·rw [putD_other _ _ _ _ e]; exact h.dig i (by omega)
 ·rw [putD_other _ _ _ _ (by omega)]; exact h.same i (by omega) h2
 ·rw [fval_succ,fval_succ,fval_succ,putD_same,fval_congr (E:=T) k (fun i hi => putD_other _ _ _ _ (by omega)),Nat.pow_succ]
  exact mulsub_step h.eq (m_eq _ _ _) (sub_eq hU (mLo_lt _ _ _) h.borrow)
structure MSEnd (w:World) (g off n:Nat) (U V:Nat→Nat) (gs b:Nat) (T:Nat→Nat) (wr:World):Prop where
 arr:ArrAt wr g off (n+1) T
 upd:Upd w wr g off (off+n+1)
 dig:∀ i,i<n+1→T i<B32
 borrow:b≤1
 eq:fval B32 T (n+1)+gs * fval B32 V n=fval B32 U (n+1)+B32 ^ (n+1) * b
theorem MSInv.fin {w wr:World} {g off n gs b c:Nat} {U V T:Nat→Nat} (h:MSInv w g off n U V gs n b c T wr) (hU:U n<B32) :
  MSEnd w g off n U V gs (subHi (U n) c b) (putD T n (subLo (U n) c b)) (wr.setCell ⟨g,off+n,none⟩ (.int .u32 (subLo (U n) c b))):=by
 refine ⟨h.arr.set _ _ (by omega) rfl,h.upd.set _ _ (by omega) (by omega),fun i hi => ?_,subHi_le _ _ _,?_⟩
 ·by_cases e:i=n
  ·subst e; rw [putD_same]; exact subLo_lt _ _ _
  ·rw [putD_other _ _ _ _ e]; exact h.dig i (by omega)
 ·rw [fval_succ,putD_same,fval_congr (E:=T) n (fun i hi => putD_other _ _ _ _ (by omega)),fval_succ,Nat.pow_succ]
  have h1:=h.eq
  have h2:=sub_eq hU h.carry h.borrow
  generalize subLo (U n) c b=r at *
  generalize subHi (U n) c b=e at *
  generalize fval B32 T n=s at *
  generalize fval B32 U n=p at *
  generalize gs * fval B32 V n=q at *
  generalize B32 ^ n=L at *
  have h3:L * (r+c+b)=L * (U n+B32 * e):=by rw [h2]
  simp only [Nat.mul_add,← Nat.mul_assoc] at *
  omega
structure BkInv (w:World) (g off n:Nat) (T V:Nat→Nat) (k s:Nat) (W:Nat→Nat) (wr:World):Prop where
 arr:ArrAt wr g off (n+1) W
 upd:Upd w wr g off (off+n+1)
 dig:∀ i,i<k→W i<B32
 same:∀ i,k≤i→i<n+1→W i=T i
 carry:s≤1
 eq:fval B32 W k+B32 ^ k * s=fval B32 T k+fval B32 V k
theorem BkInv.step {w wr:World} {g off n k s:Nat} {T V W:Nat→Nat} (h:BkInv w g off n T V k s W wr) (hk:k<n) (hT:T k<B32) (hV:V k<B32) {z:Value} (hz:z=.int .u32 (addLo (T k) (V k) s:Nat)) :
  BkInv w g off n T V (k+1) (addHi (T k) (V k) s) (putD W k (addLo (T k) (V k) s)) (wr.setCell ⟨g,off+k,none⟩ z):=by
 refine ⟨h.arr.set _ _ (by omega) hz,h.upd.set _ _ (by omega) (by omega),fun i hi => ?_,fun i h1 h2 => ?_,addHi_le hT hV h.carry,?_⟩
 ·by_cases e:i=k
  ·subst e; rw [putD_same]; exact addLo_lt _ _ _
  ·rw [putD_other _ _ _ _ e]; exact h.dig i (by omega)
 ·rw [putD_other _ _ _ _ (by omega)]; exact h.same i (by omega) h2
 ·rw [fval_succ,fval_succ,fval_succ,putD_same,fval_congr (E:=W) k (fun i hi => putD_other _ _ _ _ (by omega)),Nat.pow_succ]
  exact add_step h.eq (add_eq _ _ _)
theorem BkInv.drewN {w wr:World} {g off n k s:Nat} {T V W:Nat→Nat} (h:BkInv w g off n T V k s W wr) (q:Nat):BkInv w g off n T V k s W (wr.drewN q) :=
 ⟨h.arr.drewN q,h.upd.drewN q,h.dig,h.same,h.carry,h.eq⟩
set_option maxHeartbeats 4000000 in
set_option maxRecDepth 100000 in
theorem digitOf_core (g off n cu cv g':Nat) (U V:Nat→Nat) (w:World) (hn:n≤1000000000) (hgg:g' ≠ g) (hd:Div B32 n U V)
  (hu:ArrAt w g off (n+1) U) (hv:Cells w g' n V) :
  Calls Tryz.prog 233 #[.slice (some ⟨g,off,none⟩) (n+1) cu,.slice (some ⟨g',0,none⟩) n cv] w (RetDig g off n U V w):=by
 have h2:=hd.two
 have cU0:=hu.cell n (by omega)
 have cU1:=hu.cell (n - 1) (by omega)
 have cV1:=hv (n - 1) (by omega)
 have bU0:=hd.udig n (by omega)
 have bU1:=hd.udig (n - 1) (by omega)
 have bV1:=hd.vdig (n - 1) (by omega)
 have pV1:=hd.vpos
 have hor:=or_join bU0 bU1
 unfold B32 at bU0 bU1 bV1
 go_enter Tryz.func233,Tryz.ntmps233
 go_wp2
 go_quiet (fail)
 go_wp2
 go_quiet (fail)
 go_upto_block 0 with (fail)
 go_cut [7,8] (fun gv rv wx => ∃ gs q:Nat,gv=.int .u64 (gs:Nat)∧Guessed B32 n U V gs∧wx=w.drewN q)
 case first =>
  have hF:=Guess.first hd
  clear cU0 cU1 hor
  go_wp2
  go_loopw [7,8] (fun gv rv wr => ∃ gs r q:Nat,gv=.int .u64 (gs:Nat)∧rv=.int .u64 (r:Nat)∧Guess B32 n U V gs r∧wr=w.drewN q) (fun _ rv _ => (4294967296 - intOf rv).toNat)
  case atStart => exact ⟨_,_,_,by simp [B32],by simp [B32],hF,by rw [World.drewN_drewN]⟩
  case round =>
   obtain ⟨gs,r,q,rfl,rfl,hG,rfl⟩:=hrel
   have hr:=hG.rest
   have hgb:=hG.bound hd
   unfold B32 at hr hgb
   by_cases hA:4294967296≤gs
   ·have hbA:decide ((4294967296:Int)≤(gs:Int))=true:=by simp; omega
    have hdn:=hG.down hd (.inl hA)
    by_cases hbr:B32≤r+V (n - 1)
    ·have HG:=Guessed.of_break hd hdn.2.1 hdn.2.2 hbr
     have hbr2:(4294967296:Int)≤(r:Int)+(V (n - 1):Int):=by unfold B32 at hbr; omega
     have hpos:=hdn.1
     clear hG hF hu hv hdn hbr
     go_wp2
     go_quiet (fail)
     go_wp2
     go_meet
     case rel => exact ⟨gs - 1,_,by go_num,HG,by first | rfl | rw [World.drewN_drewN]⟩
    ·have HG:Guess B32 n U V (gs - 1) (r+V (n - 1)):=⟨hdn.2.1,hdn.2.2,by omega⟩
     have hbr2:decide ((4294967296:Int)≤(r:Int)+(V (n - 1):Int))=false:=by unfold B32 at hbr; simp; omega
     have hpos:=hdn.1
     clear hG hF hu hv hdn hbr
     go_wp2
     go_quiet (fail)
     go_wp2
     go_roundw
     case rel => exact ⟨gs - 1,r+V (n - 1),_,by go_num,by go_num,HG,by first | rfl | rw [World.drewN_drewN]⟩
     case measure => simp only [intOf]; omega
   ·have hbA:decide ((4294967296:Int)≤(gs:Int))=false:=by simp; omega
    have cU2:w.cell? ⟨g,off+(n - 2),none⟩=some (.int .u32 (U (n - 2))):=hu.cell (n - 2) (by omega)
    have cV2:=hv (n - 2) (by omega)
    have bU2:=hd.udig (n - 2) (by omega)
    have bV2:=hd.vdig (n - 2) (by omega)
    have hor2:=or_join hr bU2
    obtain ⟨hp1,hp2⟩:=prod_le (d:=gs) (by unfold B32; omega) bV2
    unfold B32 at bU2 bV2
    by_cases hT:r * B32+U (n - 2)<gs * V (n - 2)
    ·have hT2:(r:Int) * 4294967296+(U (n - 2):Int)<(gs:Int) * (V (n - 2):Int):=by
      have e:(gs:Int) * (V (n - 2):Int)=((gs * V (n - 2):Nat):Int):=by simp
      rw [e]; unfold B32 at hT; omega
     have hdn:=hG.down hd (.inr hT)
     clear hT
     by_cases hbr:B32≤r+V (n - 1)
     ·have HG:=Guessed.of_break hd hdn.2.1 hdn.2.2 hbr
      have hbr2:(4294967296:Int)≤(r:Int)+(V (n - 1):Int):=by unfold B32 at hbr; omega
      have hpos:=hdn.1
      clear hG hF hu hv hdn hbr
      go_wp2
      go_quiet (fail)
      go_wp2
      go_meet
      case rel => exact ⟨gs - 1,_,by go_num,HG,by first | rfl | rw [World.drewN_drewN]⟩
     ·have HG:Guess B32 n U V (gs - 1) (r+V (n - 1)):=⟨hdn.2.1,hdn.2.2,by omega⟩
      have hbr2:decide ((4294967296:Int)≤(r:Int)+(V (n - 1):Int))=false:=by unfold B32 at hbr; simp; omega
      have hpos:=hdn.1
      clear hG hF hu hv hdn hbr
      go_wp2
      go_quiet (fail)
      go_wp2
      go_roundw
      case rel => exact ⟨gs - 1,r+V (n - 1),_,by go_num,by go_num,HG,by first | rfl | rw [World.drewN_drewN]⟩
      case measure => simp only [intOf]; omega
    ·have hT2:(gs:Int) * (V (n - 2):Int)≤(r:Int) * 4294967296+(U (n - 2):Int):=by
      have e:(gs:Int) * (V (n - 2):Int)=((gs * V (n - 2):Nat):Int):=by simp
      rw [e]; unfold B32 at hT; omega
     have HG:=Guessed.of_test hd hG.eq hG.ge (by unfold B32; omega) (by omega)
     clear hT hG hF hu hv
     go_wp2
     go_quiet (fail)
     go_wp2
     go_meet
     case rel => exact ⟨gs,_,rfl,HG,by first | rfl | rw [World.drewN_drewN]⟩
 case rest =>
  obtain ⟨gs,q,rfl,hG,rfl⟩:=hcut
  clear cU0 cU1 cV1 hor bU1 bV1 pV1
  go_wp2
  go_loopw [9,10,80] (fun bv cv iv wr => ∃ (k b c:Nat) (T:Nat→Nat),k≤n∧iv=.int .i64 (k:Nat)∧bv=.int .u32 (b:Nat)∧cv=.int .u64 (c:Nat)∧MSInv w g off n U V gs k b c T wr) (fun _ _ iv _ => n - (intOf iv).toNat)
  case atStart => exact ⟨0,0,0,U,by omega,rfl,rfl,rfl,hu.drewN q,(Upd.refl _ _ _ _).drewN q,fun i hi => by omega,fun _ _ _ => rfl,by omega,by decide,by simp [fval]⟩
  case round =>
   obtain ⟨k,b,c,T,hk,rfl,rfl,rfl,hI⟩:=hrel
   have bG:=hG.lt
   by_cases hlt:k<n
   ·have dU:=hd.udig k (by omega)
    have dV:=hd.vdig k hlt
    have hst:=Lib.hid (hI.step hlt dU dV bG)
    have hx:=hI.arr.cell k (by omega)
    rw [hI.same k (Nat.le_refl _) (by omega)] at hx
    have hf:=hI.arr.free (off+k)
    have hy:=hI.upd.other hgg hv k hlt
    have hb1:=hI.borrow
    have hc1:=hI.carry
    have hlo:=mLo_int c gs (V k)
    have hhi:=mHi_int c gs (V k)
    have hloB:=mLo_lt c gs (V k)
    obtain ⟨hp1,hp2⟩:=prod_le bG dV
    have dV':=dV
    unfold B32 at bG dV' hc1
    clear hd hu hv hI hG
    go_wp2_with (go_at_call 234; refine (sub32_any _ _ _ dU hloB hb1 _).mono ?_; rintro e w' ⟨rfl,rfl⟩)
    go_roundw
    case rel => exact ⟨k+1,_,_,_,by omega,by go_num,rfl,rfl,hst.out⟩
    case measure => simp [intOf]; omega
   ·obtain rfl:k=n:=by omega
    have dU:=hd.udig k (by omega)
    have hE:=hI.fin dU
    have hx:=hI.arr.cell k (by omega)
    rw [hI.same k (Nat.le_refl _) (by omega)] at hx
    have hf:=hI.arr.free (off+k)
    have hb1:=hI.borrow
    have hc1:=hI.carry
    have hc2:=hc1
    have hVp:=hd.Vpos
    by_cases h0:subHi (U k) c b=0
    ·have hbq:((subHi (U k) c b:Int) == 0)=true:=by simp [h0]
     have HF:Hid (gs=fval B32 U (k+1) / fval B32 V k∧fval B32 (putD T k (subLo (U k) c b)) (k+1)=fval B32 U (k+1) % fval B32 V k):=by
      have e:=hE.eq
      rw [h0,Nat.mul_zero,Nat.add_zero] at e
      exact fin_zero hVp hG.ge e
     have HE:=Lib.hid hE
     unfold B32 at bG hc1
     clear hI hu hv hd hE hG h0
     go_wp2_with (go_at_call 234; refine (sub32_any _ _ _ dU hc2 hb1 _).mono ?_; rintro e w' ⟨rfl,rfl⟩)
     go_ret
     exact ⟨_,ret_int (by rw [← HF.out.1]),HE.out.arr,HE.out.dig,HF.out.2,HE.out.upd⟩
    ·have hbq:((subHi (U k) c b:Int) == 0)=false:=by rw [beq_eq_false_iff_ne]; omega
     have h1:subHi (U k) c b=1:=by have:=hE.borrow; omega
     obtain ⟨T2,hT2⟩:∃ T2,T2=putD T k (subLo (U k) c b):=⟨_,rfl⟩
     have HF:Hid (gs=fval B32 U (k+1) / fval B32 V k+1∧fval B32 T2 (k+1)+fval B32 V k=fval B32 U (k+1) % fval B32 V k+B32 ^ (k+1)):=by
      have e:=hE.eq
      rw [h1,Nat.mul_one,← hT2] at e
      have hx:=fval_lt (k+1) hE.dig
      rw [← hT2] at hx
      exact fin_one hG.ge hG.le e hx
     rw [← hT2] at hE
     have HE:=Lib.hid hE
     unfold B32 at bG hc1
     clear hI hE hG h0 h1 hT2
     go_wp2_with (go_at_call 234; refine (sub32_any _ _ _ dU hc2 hb1 _).mono ?_; rintro e w' ⟨rfl,rfl⟩)
     go_loopw [12,128] (fun sv iv wr => ∃ (j s:Nat) (W:Nat→Nat),j≤k∧iv=.int .i64 (j:Nat)∧sv=.int .u32 (s:Nat)∧BkInv w g off k T2 V j s W wr) (fun _ iv _ => k - (intOf iv).toNat)
     case atStart => exact ⟨0,0,T2,by omega,rfl,rfl,HE.out.arr,HE.out.upd,fun i hi => by omega,fun _ _ _ => rfl,by omega,by simp [fval]⟩
     case round =>
      obtain ⟨j,s,W,hj,rfl,rfl,hI⟩:=hrel
      have hE:=HE.out
      by_cases hlt:j<k
      ·have dT:=hE.dig j (by omega)
       have dV:=hd.vdig j hlt
       have hx:=hI.arr.cell j (by omega)
       rw [hI.same j (Nat.le_refl _) (by omega)] at hx
       have hf:=hI.arr.free (off+j)
       have hy:=hI.upd.other hgg hv j hlt
       have hs1:=hI.carry
       have hst:=Lib.hid (hI.step hlt dT dV rfl)
       clear hd hu hv hI hE
       go_wp2
       have hjk:(j:Int)<(k:Int)+1:=by omega
       go_region_with (go_at_call 222; refine (add32_any _ _ _ dT dV hs1 _).mono ?_; rintro e w' ⟨rfl,rfl⟩)
       all_goals go_wp2
       all_goals (refine ⟨⟨j+1,_,_,by omega,by go_num,rfl,hst.out.drewN 1⟩,by simp [intOf]; omega⟩)
      ·obtain rfl:j=k:=by omega
       have hx:=hI.arr.cell j (by omega)
       rw [hI.same j (Nat.le_refl _) (by omega)] at hx
       have hf:=hI.arr.free (off+j)
       have hs1:=hI.carry
       have hjk:(j:Int)<(j:Int)+1:=by omega
       have bG2:0<gs:=by rw [HF.out.1]; exact Nat.succ_pos _
       have hEnd:=hI.arr.set j (addLo (T2 j) 0 s) (by omega) rfl
       have hUpd:=hI.upd.set (off+j) (.int .u32 (addLo (T2 j) 0 s)) (by omega) (by omega)
       have hDig:∀ i,i<j+1→putD W j (addLo (T2 j) 0 s) i<B32:=fun i hi => by
        by_cases e:i=j
        ·subst e; rw [putD_same]; exact addLo_lt _ _ _
        ·rw [putD_other _ _ _ _ e]; exact hI.dig i (by omega)
       have hVal:Hid (fval B32 (putD W j (addLo (T2 j) 0 s)) (j+1)=fval B32 U (j+1) % fval B32 V j):=by
        have hlt:fval B32 U (j+1) % fval B32 V j<B32 ^ (j+1) :=
         Nat.lt_trans (Nat.mod_lt _ hVp) (Nat.lt_of_lt_of_le (fval_lt j hd.vdig) (Nat.pow_le_pow_right (by decide) (by omega)))
        have e1:=hI.eq
        have e2:=HF.out.2
        have e3:=add_eq (T2 j) 0 s
        show fval B32 (putD W j (addLo (T2 j) 0 s)) (j+1)=_
        refine fin_mod (e:=addHi (T2 j) 0 s) hlt (fval_lt _ hDig) ?_
        rw [fval_succ B32 (putD W j (addLo (T2 j) 0 s)) j,putD_same,fval_congr (E:=W) j (fun i hi => putD_other _ _ _ _ (by omega)),← e2,fval_succ B32 T2 j,Nat.pow_succ]
        generalize addLo (T2 j) 0 s=r at *
        generalize addHi (T2 j) 0 s=h at *
        generalize fval B32 W j=x at *
        generalize fval B32 T2 j=y at *
        generalize fval B32 V j=v at *
        generalize B32 ^ j=L at *
        have e4:L * (r+B32 * h)=L * (T2 j+0+s):=by rw [e3]
        simp only [Nat.mul_add,← Nat.mul_assoc] at *
        omega
       have hadd:((T2 j:Int)+(s:Int)) % 4294967296=(addLo (T2 j) 0 s:Int):=by unfold addLo; omega
       clear hI hE hd hu hv
       go_wp2
       go_ret
       refine ⟨_,ret_int ?_,hEnd,hDig,hVal.out,hUpd⟩
       have hq:=HF.out.1
       clear HF hVal
       generalize fval B32 U (j+1) / fval B32 V j=q at *
       subst hq
       simp
theorem fval_high_zero {B:Nat} {D:Nat→Nat} {k n:Nat} (hB:0<B) (h:fval B D n<B ^ k):∀ i,k≤i→i<n→D i=0:=by
 induction n with
 | zero => intro i _ hi; omega
 | succ n ih =>
  intro i h1 h2
  rw [fval_succ] at h
  by_cases e:i=n
  ·subst e
   apply Classical.byContradiction
   intro hne
   have h3:B ^ i * 1≤B ^ i * D i:=Nat.mul_le_mul_left _ (by omega)
   have h4:B ^ k≤B ^ i:=Nat.pow_le_pow_right hB h1
   omega
  ·exact ih (by omega) i h1 (by omega)
theorem hi_zeros {B:Nat} {D:Nat→Nat} {j l m:Nat} (hB:0<B) (hj:j+l≤m) (h:hi B D j m<B ^ l):hi B D j m=fval B (fun i => D (j+i)) l:=by
 unfold hi at *
 refine fval_zeros (by omega) (fun i h1 h2 => ?_)
 have:=fval_high_zero (B:=B) hB h i h1 (by omega)
 exact this
structure DivInv (w:World) (g1 g2 g3 m n:Nat) (U V:Nat→Nat) (k:Nat) (Q T:Nat→Nat) (wr:World):Prop where
 q:Arr wr g3 (m+1 - n) Q
 u:Arr wr g1 (m+1) T
 v:Cells wr g2 n V
 below:Below w.heap.size w wr
 size:g3<wr.heap.size
 qdig:∀ i,k≤i→i<m+1 - n→Q i<B32
 udig:∀ i,i<m+1→T i<B32
 same:∀ i,i<k→T i=U i
 rest:hi B32 T k (m+1)<fval B32 V n
 eq:hi B32 U k (m+1)=hi B32 Q k (m+1 - n) * fval B32 V n+hi B32 T k (m+1)
theorem DivInv.start {w wr:World} {g1 g2 g3 m n:Nat} {U V Q:Nat→Nat} (hq:Arr wr g3 (m+1 - n) Q) (hu:Arr wr g1 (m+1) U) (hv:Cells wr g2 n V) (hb:Below w.heap.size w wr)
  (hsz:g3<wr.heap.size) (hU:∀ i,i<m+1→U i<B32) (hlt:hi B32 U (m+1 - n) (m+1)<fval B32 V n):DivInv w g1 g2 g3 m n U V (m+1 - n) Q U wr :=
 ⟨hq,hu,hv,hb,hsz,fun i h1 h2 => by omega,hU,fun _ _ => rfl,hlt,by rw [hi_top]; omega⟩
theorem DivInv.div {w wr:World} {g1 g2 g3 m n k:Nat} {U V Q T:Nat→Nat} (h:DivInv w g1 g2 g3 m n U V (k+1) Q T wr) (hk:k+1≤m+1 - n) (hn:2≤n) (hV:∀ i,i<n→V i<B32) (hhalf:B32≤2 * V (n - 1)) :
  Div B32 n (fun i => T (k+i)) V∧hi B32 T k (m+1)=fval B32 (fun i => T (k+i)) (n+1):=by
 have hVn:=fval_lt n hV
 have hr:=h.rest
 have e:=hi_step B32 T (k:=k) (m:=m+1) (by omega)
 have hT:=h.udig k (by omega)
 have h1:hi B32 T k (m+1)<fval B32 V n * B32:=by
  rw [e]
  have:B32 * (hi B32 T (k+1) (m+1)+1)≤B32 * fval B32 V n:=Nat.mul_le_mul_left _ hr
  rw [Nat.mul_add,Nat.mul_one] at this
  rw [Nat.mul_comm (fval B32 V n)]
  omega
 have h2:hi B32 T k (m+1)<B32 ^ (n+1):=by
  refine Nat.lt_of_lt_of_le h1 ?_
  rw [Nat.pow_succ]
  exact Nat.mul_le_mul_right _ (Nat.le_of_lt hVn)
 have h3:=hi_zeros (l:=n+1) (B:=B32) (by decide) (by omega) h2
 exact ⟨⟨hn,fun i hi => h.udig _ (by omega),hV,hhalf,by rw [← h3]; exact h1,by decide⟩,h3⟩
theorem DivInv.step {w wr w1:World} {g1 g2 g3 m n k:Nat} {U V Q T U':Nat→Nat} (h:DivInv w g1 g2 g3 m n U V (k+1) Q T wr) (hk:k+1≤m+1 - n) (hn:2≤n) (hV:∀ i,i<n→V i<B32) (hhalf:B32≤2 * V (n - 1))
  (h12:g1 ≠ g2) (h13:g1 ≠ g3) (h23:g2 ≠ g3) (hw1:w.heap.size≤g1) (hw3:w.heap.size≤g3)
  (hc:∀ i,i<n+1→w1.cell? ⟨g1,k+i,none⟩=some (.int .u32 (U' i))) (hU':∀ i,i<n+1→U' i<B32)
  (hval:fval B32 U' (n+1)=fval B32 (fun i => T (k+i)) (n+1) % fval B32 V n) (hup:Upd wr w1 g1 k (k+n+1)) {z:Value}
  (hz:z=.int .u32 ((fval B32 (fun i => T (k+i)) (n+1) / fval B32 V n:Nat):Int)) :
  ∃ T',DivInv w g1 g2 g3 m n U V k (putD Q k (fval B32 (fun i => T (k+i)) (n+1) / fval B32 V n)) T' (w1.setCell ⟨g3,k,none⟩ z):=by
 obtain ⟨hd,hhi⟩:=h.div hk hn hV hhalf
 have hVpos:=hd.Vpos
 have hold:∀ i,i<m+1→w1.cell? ⟨g1,i,none⟩=some (.int .u32 (((if k≤i∧i<k+n+1 then U' (i - k) else T i):Nat):Int)):=fun i hi => by
  by_cases e:k≤i∧i<k+n+1
  ·rw [if_pos e]
   have:=hc (i - k) (by omega)
   rwa [show k+(i - k)=i from by omega] at this
  ·rw [if_neg e,hup.out i (by omega)]; exact h.u.cell i hi
 refine ⟨fun i => if k≤i∧i<k+n+1 then U' (i - k) else T i,?_⟩
 have hq1:Arr w1 g3 (m+1 - n) Q:=⟨hup.other (fun e => h13 e.symm) h.q.cell,fun i => by rw [hup.free]; exact h.q.free i⟩
 have hb1:Below w.heap.size w w1:=h.below.trans (hup.below hw1)
 have hTk:hi B32 (fun i => if k≤i∧i<k+n+1 then U' (i - k) else T i) k (m+1)=fval B32 U' (n+1):=by
  unfold hi
  have hhi2:=hhi
  unfold hi at hhi2
  have hz0:∀ i,n+1≤i→i<m+1 - k→T (k+i)=0:=by
   refine fval_high_zero (B:=B32) (D:=fun i => T (k+i)) (by decide) ?_
   rw [hhi2]
   exact fval_lt _ hd.udig
  rw [fval_zeros (k:=n+1) (by omega) (fun i h1 h2 => by
   show (if k≤k+i∧k+i<k+n+1 then U' (k+i - k) else T (k+i))=0
   rw [if_neg (by omega)]; exact hz0 i h1 h2)]
  exact fval_congr _ (fun i hi => by
   show (if k≤k+i∧k+i<k+n+1 then U' (k+i - k) else T (k+i))=U' i
   rw [if_pos (by omega),Nat.add_sub_cancel_left])
 have hquo:fval B32 (fun i => T (k+i)) (n+1) / fval B32 V n<B32:=Nat.div_lt_of_lt_mul hd.less
 refine ⟨hq1.set k _ (by omega) hz,⟨fun i hi => ?_,fun i => ?_⟩,fun i hi => ?_,hb1.setCell hw3 _,?_,fun i h1 h2 => ?_,fun i hi => ?_,fun i hi => ?_,?_,?_⟩
 ·rw [World.cell?_setCell_other w1 ⟨g3,k,none⟩ ⟨g1,i,none⟩ _ (fun e => by injection e with e1; exact h13 e1.symm)]
  exact hold i hi
 ·rw [World.frozen?_setCell,hup.free]; exact h.u.free i
 ·rw [World.cell?_setCell_other w1 ⟨g3,k,none⟩ ⟨g2,i,none⟩ _ (fun e => by injection e with e1; exact h23 e1.symm)]
  exact hup.other (fun e => h12 e.symm) h.v i hi
 ·have h1:=hup.size
  have h2:=h.size
  show g3<(w1.heap.modify _ _).size
  rw [Array.size_modify]; omega
 ·by_cases e:i=k
  ·subst e; rw [putD_same]; exact hquo
  ·rw [putD_other _ _ _ _ e]; exact h.qdig i (by omega) h2
 ·show (if k≤i∧i<k+n+1 then U' (i - k) else T i)<B32
  split
  ·exact hU' _ (by omega)
  ·exact h.udig i hi
 ·show (if k≤i∧i<k+n+1 then U' (i - k) else T i)=U i
  rw [if_neg (by omega)]; exact h.same i (by omega)
 ·rw [hTk,hval]; exact Nat.mod_lt _ hVpos
 ·rw [hTk,hval,hi_step B32 U (by omega),h.eq,hi_step B32 (putD Q k _) (by omega),putD_same,hi_congr (D:=putD Q k _) (E:=Q) (fun i h1 h2 => putD_other _ _ _ _ (by omega)),
   ← h.same k (by omega)]
  have e:=hi_step B32 T (k:=k) (m:=m+1) (by omega)
  rw [hhi] at e
  have e2:=Nat.div_add_mod (fval B32 (fun i => T (k+i)) (n+1)) (fval B32 V n)
  rw [e] at e2 ⊢
  generalize (T k+B32 * hi B32 T (k+1) (m+1)) / fval B32 V n=q at *
  generalize (T k+B32 * hi B32 T (k+1) (m+1)) % fval B32 V n=r at *
  generalize fval B32 V n=v at *
  generalize hi B32 T (k+1) (m+1)=t at *
  generalize hi B32 Q (k+1) (m+1 - n)=p at *
  rw [Nat.mul_add,Nat.add_mul,Nat.mul_comm q v,Nat.mul_assoc]
  omega
theorem shr_sum {s n:Nat} {T R:Nat→Nat} (hs:s<32) (hR:∀ i,i<n→R i=T i / 2 ^ s+T (i+1) % 2 ^ s * 2 ^ (32 - s)):∀ k,k≤n →
  fval B32 R k * 2 ^ s+T 0 % 2 ^ s=fval B32 T k+B32 ^ k * (T k % 2 ^ s):=by
 intro k
 induction k with
 | zero => intro _; simp [fval]
 | succ k ih =>
  intro hk
  have h1:=ih (by omega)
  rw [fval_succ,fval_succ,hR k (by omega),Nat.add_mul]
  have e1:(T k / 2 ^ s+T (k+1) % 2 ^ s * 2 ^ (32 - s)) * 2 ^ s+T k % 2 ^ s=T k+B32 * (T (k+1) % 2 ^ s):=by
   have h2:=Nat.div_add_mod (T k) (2 ^ s)
   have h3:2 ^ (32 - s) * 2 ^ s=B32:=by rw [Nat.mul_comm]; exact shift_pow hs
   rw [Nat.add_mul,Nat.mul_assoc,h3,Nat.mul_comm (T k / 2 ^ s),Nat.mul_comm (T (k+1) % 2 ^ s)]
   omega
  have e2:B32 ^ k * ((T k / 2 ^ s+T (k+1) % 2 ^ s * 2 ^ (32 - s)) * 2 ^ s+T k % 2 ^ s)=B32 ^ k * (T k+B32 * (T (k+1) % 2 ^ s)):=by rw [e1]
  rw [Nat.pow_succ,Nat.mul_assoc (B32 ^ k),Nat.mul_assoc (B32 ^ k)]
  simp only [Nat.mul_add] at e2
  omega
theorem shr_val {s n X:Nat} {T R:Nat→Nat} (hs:s<32) (hR:∀ i,i<n→R i=T i / 2 ^ s+T (i+1) % 2 ^ s * 2 ^ (32 - s)) (hn:T n=0) (hX:fval B32 T n=X * 2 ^ s):fval B32 R n=X:=by
 have hp:0<2 ^ s:=Nat.pow_pos (by decide)
 have h1:=shr_sum hs hR n (Nat.le_refl _)
 rw [hn,Nat.zero_mod,Nat.mul_zero,Nat.add_zero,hX] at h1
 have h2:T 0 % 2 ^ s=0:=by
  have:=congrArg (· % 2 ^ s) h1
  simp only [Nat.mul_mod_left] at this
  rw [Nat.add_comm,Nat.add_mul_mod_self_right,Nat.mod_mod] at this
  exact this
 rw [h2,Nat.add_zero] at h1
 exact Nat.eq_of_mul_eq_mul_right hp h1
theorem shr_lt {s a b:Nat} (hs:s<32) (ha:a<B32):a / 2 ^ s+b % 2 ^ s * 2 ^ (32 - s)<B32:=by
 have hp:0<2 ^ s:=Nat.pow_pos (by decide)
 have h1:a / 2 ^ s<2 ^ (32 - s):=by
  rw [Nat.div_lt_iff_lt_mul hp,Nat.mul_comm,shift_pow hs]; exact ha
 have h2:(b % 2 ^ s+1) * 2 ^ (32 - s)≤2 ^ s * 2 ^ (32 - s):=Nat.mul_le_mul_right _ (Nat.mod_lt _ hp)
 rw [shift_pow hs,Nat.add_mul,Nat.one_mul] at h2
 omega
theorem shift_div {X Y Q R P:Nat} (hP:0<P) (h:X * P=Q * (Y * P)+R) (hR:R<Y * P):Q=X / Y∧R=X % Y * P:=by
 have hY:0<Y:=by apply Nat.pos_of_ne_zero; intro e; subst e; omega
 have h1:X * P / (Y * P)=Q:=by
  rw [h,Nat.mul_comm Q,Nat.mul_add_div (Nat.mul_pos hY hP),Nat.div_eq_of_lt hR,Nat.add_zero]
 have h2:X * P % (Y * P)=R:=by
  rw [h,Nat.mul_comm Q,Nat.mul_add_mod,Nat.mod_eq_of_lt hR]
 rw [Nat.mul_div_mul_right _ _ hP] at h1
 rw [Nat.mul_mod_mul_right] at h2
 exact ⟨h1.symm,h2.symm⟩
def blen (x:Nat):Nat:=if x=0 then 0 else Nat.log2 x+1
theorem bitLenAux_eq:∀ f x,x<2 ^ f→Lib.bitLenAux f x=blen x:=by
 intro f
 induction f with
 | zero =>
  intro x h; have:x=0:=by simpa using h
  subst this; rfl
 | succ f ih =>
  intro x h
  simp only [Lib.bitLenAux]
  by_cases h0:x=0
  ·simp [h0,blen]
  ·rw [if_neg h0,ih (x / 2) (by rw [Nat.pow_succ] at h; omega)]
   unfold blen
   rw [if_neg h0]
   by_cases h1:x / 2=0
   ·have:x=1:=by omega
    subst this; decide
   ·rw [if_neg h1]
    have:x.log2=(x / 2).log2+1:=by
     rw [Nat.log2_def,if_pos (by omega)]
    omega
theorem bitLen_eq {x:Nat} (h:x<18446744073709551616):Lib.bitLen x=blen x:=bitLenAux_eq 64 x h
theorem blen_lt {x:Nat}:x<2 ^ blen x:=by
 unfold blen; split
 ·rename_i h; rw [h]; decide
 ·exact Nat.lt_log2_self
theorem blen_ge {x:Nat} (h:x ≠ 0):2 ^ (blen x - 1)≤x:=by
 unfold blen; rw [if_neg h]; exact Nat.log2_self_le h
theorem blen_le {x k:Nat} (h:x<2 ^ k):blen x≤k:=by
 by_cases h0:x=0
 ·simp [blen,h0]
 ·have h1:=blen_ge h0
  have h2:2 ^ (blen x - 1)<2 ^ k:=by omega
  have:=(Nat.pow_lt_pow_iff_right (by decide:1<2)).1 h2
  omega
def RetLz (x:Nat) (w:World) (e:Ending) (w':World):Prop:=∃ s:Nat,e=.returned (.int .i64 s)∧s<32∧x * 2 ^ s<B32∧B32≤2 * (x * 2 ^ s)∧w=w'
theorem lz32_any (x:Nat) (hx:x<B32) (h0:x ≠ 0) (w:World):Calls Tryz.prog 231 #[.int .u32 x] w (RetLz x w) :=
 (Tryz.bits_LeadingZeros32 (x:Int) w (by omega) (by unfold B32 at hx; omega)).mono fun e w' ⟨he,hw⟩ => by
  have h1:blen x≤32:=blen_le hx
  have h2:=blen_ge h0
  have h3:=@blen_lt x
  have h4:blen x ≠ 0:=by intro e; rw [e] at h3; simp at h3; omega
  rw [Int.toNat_natCast,bitLen_eq (by unfold B32 at hx; omega)] at he
  refine ⟨32 - blen x,by rw [he]; congr 2; omega,by omega,?_,?_,hw.symm⟩
  ·have e:B32=2 ^ blen x * 2 ^ (32 - blen x):=by rw [← Nat.pow_add,show blen x+(32 - blen x)=32 from by omega]
   rw [e]
   exact (Nat.mul_lt_mul_right (Nat.pow_pos (by decide))).2 h3
  ·have e:B32=2 * (2 ^ (blen x - 1) * 2 ^ (32 - blen x)):=by
    rw [← Nat.pow_add,show blen x - 1+(32 - blen x)=31 from by omega]
   rw [e]
   exact Nat.mul_le_mul_left _ (Nat.mul_le_mul_right _ h2)
def RetNN (B X Y:Nat) (w:World) (e:Ending) (w':World):Prop :=
 ∃ v u,e=.returned (.tuple #[v,u])∧IsN B w' v X∧IsN B w' u Y∧Below w.heap.size w w'
theorem div_lt {X Y:Nat} {x y:Value} {w:World} (hx:IsN B32 w x X) (hy:IsN B32 w y Y) (h:X<Y) :
  Calls Tryz.prog 223 #[x,y] w (RetNN B32 (X / Y) (X % Y) w):=by
 have hc:=cmp_any hx hy
 rw [cmpN,if_pos h] at hc
 have h1:X / Y=0:=Nat.div_eq_of_lt h
 have h2:X % Y=X:=Nat.mod_eq_of_lt h
 rw [h1,h2]
 clear h1 h2
 go_enter Tryz.func223,Tryz.ntmps223
 go_wp2_with (go_at_call 200; refine hc.mono ?_; rintro e w' ⟨rfl,q,rfl⟩)
 go_ret2
 exact ⟨_,_,rfl,IsN.nil _ _,hx.later (below_drewN' _ _),below_drewN' _ _⟩
theorem cmp_ge {X Y:Nat} {x y:Value} {w:World} (hx:IsN B32 w x X) (hy:IsN B32 w y Y) (h:Y≤X) :
  ∃ c:Int,0≤c∧c≤1∧Calls Tryz.prog 200 #[x,y] w (RetQ (.int .i64 c) w):=by
 have hc:=cmp_any hx hy
 rw [cmpN,if_neg (by omega)] at hc
 refine ⟨_,?_,?_,hc⟩
 ·split <;> omega
 ·split <;> omega
theorem divOne_any {X d g cap:Nat} {D:Nat→Nat} {x:Value} {w:World} (hx:IsN B32 w x X) (sx:Sm X) (hr:Rep B32 D 1 d) (hc:Cells w g 1 D) (hcap:1≤cap) (hcap2:cap≤9223372036854775807) (h:d≤X) :
  Calls Tryz.prog 223 #[x,.slice (some ⟨g,0,none⟩) 1 cap] w (RetNN B32 (X / d) (X % d) w):=by
 obtain ⟨c,c0,c1,hcmp⟩:=cmp_ge hx ⟨1,D,hr,.inr ⟨g,cap,rfl,hcap,hcap2,hc⟩⟩ h
 have hd:D 0=d:=by have:=hr.eq; simpa [fval] using this
 have hd0:0<d:=by have:=hr.top (by omega); simp at this; omega
 have hd1:d<B32:=by rw [← hd]; exact hr.dig 0 (by omega)
 have hcell:=hc 0 (by omega)
 rw [hd] at hcell
 have hsm:X % d<18446744073709551616:=by have:=Nat.mod_lt X hd0; unfold B32 at hd1; omega
 clear hd hc hr
 go_enter Tryz.func223,Tryz.ntmps223
 go_wp2_with fail
 refine hcmp.mono ?_
 rintro e w' ⟨rfl,q,rfl⟩
 go_wp2_with fail
 refine (small_any (hx.later (below_drewN' _ _)) sx hd0 hd1).mono ?_
 rintro e w1 ⟨v,rfl,hv,hb1⟩
 go_wp2_with fail
 refine (natOf_any (X % d) hsm _).mono ?_
 rintro e w2 ⟨u,rfl,hu,hb2⟩
 go_wp2
 go_ret2
 exact ⟨_,_,rfl,hv.later hb2,hu,(below_drewN' _ _).trans (hb1.trans (hb2.mono hb1.size))⟩
theorem hi_top_lt {m n s:Nat} {U V:Nat→Nat} (hn:2≤n) (hmn:n≤m) (hs:s<32) (hU:∀ i,i<m+1→U i<B32) {X:Nat} (hX:X<B32 ^ m) (hUv:fval B32 U (m+1)=X * 2 ^ s)
  (hhalf:B32≤2 * V (n - 1)):hi B32 U (m+1 - n) (m+1)<fval B32 V n:=by
 have hp:2 ^ s * 2≤B32:=by
  have h1:2 ^ s≤2 ^ 31:=Nat.pow_le_pow_right (by decide) (by omega)
  unfold B32; omega
 have htop:U m<2 ^ s:=by
  apply Classical.byContradiction
  intro h
  have h1:B32 ^ m * 2 ^ s≤B32 ^ m * U m:=Nat.mul_le_mul_left _ (by omega)
  have h2:X * 2 ^ s<B32 ^ m * 2 ^ s:=(Nat.mul_lt_mul_right (Nat.pow_pos (by decide))).2 hX
  rw [fval_succ] at hUv
  omega
 obtain ⟨k,rfl⟩:∃ k,n=k+1:=⟨n - 1,by omega⟩
 have e:hi B32 U (m+1 - (k+1)) (m+1)=fval B32 (fun i => U (m+1 - (k+1)+i)) k+B32 ^ k * U m:=by
  unfold hi
  rw [show m+1 - (m+1 - (k+1))=k+1 from by omega,fval_succ]
  congr 3
  omega
 have h1:fval B32 (fun i => U (m+1 - (k+1)+i)) k<B32 ^ k:=fval_lt k (fun i hi => hU _ (by omega))
 have h2:B32 ^ k * (U m+1)≤B32 ^ k * V k:=by
  refine Nat.mul_le_mul_left _ ?_
  simp only [Nat.add_sub_cancel] at hhalf
  omega
 rw [e,fval_succ]
 rw [Nat.mul_add] at h2
 omega
theorem shifted_len {n s Y:Nat} {E V:Nat→Nat} (hn:2≤n) (hr:Rep B32 E n Y) (hs1:E (n - 1) * 2 ^ s<B32) (hs2:B32≤2 * (E (n - 1) * 2 ^ s)) (hV:∀ i,i<n+1→V i<B32)
  (hval:fval B32 V (n+1)=Y * 2 ^ s):tlen V (n+1)=n∧B32≤2 * V (n - 1)∧fval B32 V n=Y * 2 ^ s:=by
 obtain ⟨k,rfl⟩:∃ k,n=k+1:=⟨n - 1,by omega⟩
 simp only [Nat.add_sub_cancel] at *
 have hYlo:B32 ^ k * E k≤Y:=by rw [← hr.eq,fval_succ]; omega
 have hYhi:Y<B32 ^ k * (E k+1):=by
  have:=fval_lt k (fun i hi => hr.dig i (by omega))
  rw [← hr.eq,fval_succ,Nat.mul_add]; omega
 have hp:0<2 ^ s:=Nat.pow_pos (by decide)
 have hb:B32 ^ k * (E k+1) * 2 ^ s≤B32 ^ k * B32:=by
  rw [Nat.mul_assoc]
  refine Nat.mul_le_mul_left _ ?_
  -- (E k+1) 2^s is at most the base: both are multiples of 2^s
  have hs:s<32:=by
   apply Classical.byContradiction
   intro h
   have h1:2 ^ 32≤2 ^ s:=Nat.pow_le_pow_right (by decide) (by omega)
   have h2:0<E k:=by
    apply Nat.pos_of_ne_zero; intro e; rw [e] at hs2; unfold B32 at hs2; omega
   have h3:1 * 2 ^ s≤E k * 2 ^ s:=Nat.mul_le_mul_right _ h2
   unfold B32 at hs1; omega
  have hB:=shift_pow hs
  rw [← hB,Nat.mul_comm (2 ^ s)] at hs1
  have h1:E k<2 ^ (32 - s):=Nat.lt_of_mul_lt_mul_right hs1
  rw [← hB,Nat.mul_comm (2 ^ s)]
  exact Nat.mul_le_mul_right _ h1
 have hYs:Y * 2 ^ s<B32 ^ (k+1):=by
  rw [Nat.pow_succ]
  exact Nat.lt_of_lt_of_le ((Nat.mul_lt_mul_right hp).2 hYhi) hb
 have hz:V (k+1)=0:=fval_high_zero (B:=B32) (n:=k+1+1) (by decide) (by rw [hval]; exact hYs) (k+1) (Nat.le_refl _) (by omega)
 have hv:fval B32 V (k+1)=Y * 2 ^ s:=by rw [← hval,fval_succ B32 V (k+1),hz]; omega
 have hk:B32≤2 * V k:=by
  apply Classical.byContradiction
  intro h
  have h1:=fval_lt k (fun i hi => hV i (by omega))
  have h2:B32 ^ k * (2 * V k+2)≤B32 ^ k * B32:=Nat.mul_le_mul_left _ (by unfold B32 at *; omega)
  have h3:B32 ^ k * B32≤B32 ^ k * (2 * (E k * 2 ^ s)):=Nat.mul_le_mul_left _ hs2
  have h4:B32 ^ k * E k * 2 ^ s≤Y * 2 ^ s:=Nat.mul_le_mul_right _ hYlo
  rw [fval_succ] at hv
  rw [Nat.mul_add,Nat.mul_left_comm] at h2
  rw [Nat.mul_left_comm,← Nat.mul_assoc (B32 ^ k)] at h3
  omega
 refine ⟨?_,hk,hv⟩
 rw [tlen,if_pos hz]
 exact tlen_of_top (by simp only [Nat.add_sub_cancel]; unfold B32 at hk; omega)
def shrD (T:Nat→Nat) (s i:Nat):Nat:=T i / 2 ^ s+T (i+1) % 2 ^ s * 2 ^ (32 - s)
structure ShrInv (w:World) (g1 g3 t s l:Nat) (T Q:Nat→Nat) (i:Nat) (wr:World):Prop where
 arr:Arr wr g1 t (fun k => if k<i then shrD T s k else T k)
 q:Cells wr g3 l Q
 below:Below w.heap.size w wr
theorem div_pow_int (a s:Nat):(a:Int) / 2 ^ s=((a / 2 ^ s:Nat):Int):=by simp
theorem shr_or {a b s:Nat} (ha:a<B32) (hb:b<B32) (hs:s<32) :
  Value.int .u32 (bits .or .u32 ((a:Int) / 2 ^ s) (IntKind.u64.wrap (IntKind.u64.wrap (b:Int) * 2 ^ (32 - s)) % 4294967296))=.int .u32 ((a / 2 ^ s+b % 2 ^ s * 2 ^ (32 - s):Nat):Int):=by
 have hp:0<2 ^ s:=Nat.pow_pos (by decide)
 have hB:=shift_pow hs
 have h1:a / 2 ^ s<2 ^ (32 - s):=by
  rw [Nat.div_lt_iff_lt_mul hp,Nat.mul_comm,hB]; exact ha
 have h2:2 ^ (32 - s)≤2 ^ 32:=Nat.pow_le_pow_right (by decide) (by omega)
 have h3:b * 2 ^ (32 - s)<4294967296 * 4294967296:=Nat.lt_of_lt_of_le ((Nat.mul_lt_mul_right (Nat.pow_pos (by decide))).2 hb) (Nat.mul_le_mul_left _ h2)
 have e1:((b * 2 ^ (32 - s):Nat):Int)=(b:Int) * 2 ^ (32 - s):=by simp
 have e2:(b:Int) % 18446744073709551616=b:=by unfold B32 at hb; omega
 have e3:IntKind.u64.wrap (IntKind.u64.wrap (b:Int) * 2 ^ (32 - s)) % 4294967296=((b % 2 ^ s * 2 ^ (32 - s):Nat):Int):=by
  rw [wrap_u64',wrap_u64',e2,← e1]
  have e4:b * 2 ^ (32 - s) % B32=b % 2 ^ s * 2 ^ (32 - s):=by rw [← hB,Nat.mul_mod_mul_right]
  rw [← e4]
  unfold B32
  omega
 rw [e3,div_pow_int,u32_or_nat _ _ (by omega) (by rw [← Nat.mul_mod_mul_right,hB]; exact Nat.mod_lt _ (by decide)),Nat.or_comm,nat_join (32 - s) _ _ (Nat.mul_mod_left _ _) h1,Nat.add_comm]
theorem ShrInv.put {w wr:World} {g1 g3 t s l i:Nat} {T Q:Nat→Nat} (h:ShrInv w g1 g3 t s l T Q i wr) (hi:i<t) (h13:g1 ≠ g3) (hw:w.heap.size≤g1) {z:Value} (hz:z=.int .u32 (shrD T s i:Nat)) :
  ShrInv w g1 g3 t s l T Q (i+1) (wr.setCell ⟨g1,i,none⟩ z):=by
 have h1:=h.arr.set i (shrD T s i) hi hz
 refine ⟨⟨fun k hk => ?_,h1.free⟩,fun k hk => ?_,h.below.setCell hw _⟩
 ·rw [h1.cell k hk]
  congr 3
  by_cases e:k=i
  ·subst e; rw [putD_same,if_pos (by omega)]
  ·rw [putD_other _ _ _ _ e]
   by_cases e2:k<i
   ·rw [if_pos e2,if_pos (by omega)]
   ·rw [if_neg e2,if_neg (by omega)]
 ·rw [World.cell?_setCell_other wr ⟨g1,i,none⟩ ⟨g3,k,none⟩ _ (fun e => by injection e with e1; exact h13 e1)]
  exact h.q k hk
theorem ShrInv.pre {w wr:World} {g1 g3 t s l i:Nat} {T Q:Nat→Nat} (h:ShrInv w g1 g3 t s l T Q i wr) (hi:i<t) (h13:g1 ≠ g3) (hw:w.heap.size≤g1) {z y:Value} (hz:z=.int .u32 (shrD T s i:Nat)) (x:Nat) (hy:y=.int .u32 (x:Int)) :
  ShrInv w g1 g3 t s l T Q (i+1) ((wr.setCell ⟨g1,i,none⟩ y).setCell ⟨g1,i,none⟩ z):=by
 have h1:=(h.arr.set i x hi hy).set i (shrD T s i) hi hz
 refine ⟨⟨fun k hk => ?_,h1.free⟩,fun k hk => ?_,(h.below.setCell hw _).setCell hw _⟩
 ·rw [h1.cell k hk]
  congr 3
  by_cases e:k=i
  ·subst e; rw [putD_same,if_pos (by omega)]
  ·rw [putD_other _ _ _ _ e,putD_other _ _ _ _ e]
   by_cases e2:k<i
   ·rw [if_pos e2,if_pos (by omega)]
   ·rw [if_neg e2,if_neg (by omega)]
 ·rw [World.cell?_setCell_other (wr.setCell ⟨g1,i,none⟩ y) ⟨g1,i,none⟩ ⟨g3,k,none⟩ _ (fun e => by injection e with e1; exact h13 e1),
   World.cell?_setCell_other wr ⟨g1,i,none⟩ ⟨g3,k,none⟩ _ (fun e => by injection e with e1; exact h13 e1)]
  exact h.q k hk
theorem ShrInv.drew {w wr:World} {g1 g3 t s l i:Nat} {T Q:Nat→Nat} (h:ShrInv w g1 g3 t s l T Q i wr):ShrInv w g1 g3 t s l T Q i wr.drew :=
 ⟨h.arr.drew,h.q,h.below.drew⟩
set_option maxHeartbeats 4000000 in
set_option maxRecDepth 100000 in
theorem div_long {X Y m n g g' cm cn:Nat} {D E:Nat→Nat} {w:World} (hn:2≤n) (hm:m≤1000000) (r1:Rep B32 D m X) (r2:Rep B32 E n Y)
  (m1:m≤cm) (m2:cm≤9223372036854775807) (n1:n≤cn) (n2:cn≤9223372036854775807) (c1:Cells w g m D) (c2:Cells w g' n E) (h:Y≤X) :
  Calls Tryz.prog 223 #[.slice (some ⟨g,0,none⟩) m cm,.slice (some ⟨g',0,none⟩) n cn] w (RetNN B32 (X / Y) (X % Y) w):=by
 obtain ⟨c,hc0,hc1,hcmp⟩:=cmp_ge (w:=w) ⟨m,D,r1,.inr ⟨g,cm,rfl,m1,m2,c1⟩⟩ ⟨n,E,r2,.inr ⟨g',cn,rfl,n1,n2,c2⟩⟩ h
 have hnm:n≤m:=r2.len_mono (by decide) r1 h
 have hmk:=run_makeD (t:=128) Tryz.underlying128 ((m:Int)+1 - (n:Int)) (m+1 - n) (by omega) (by omega)
 have hcY:=c2 (n - 1) (by omega)
 have hE0:E (n - 1) ≠ 0:=r2.top (by omega)
 have hE1:E (n - 1)<B32:=r2.dig _ (by omega)
 have hb0:((n:Int) == 1)=false:=by rw [beq_eq_false_iff_ne]; omega
 have hcz:decide (c<0)=false:=by simp; omega
 have HCMP:=Lib.hid hcmp; clear hcmp
 go_enter Tryz.func223,Tryz.ntmps223
 go_wp2_with fail
 refine HCMP.out.mono ?_
 rintro e W ⟨rfl,q,hq⟩
 have hbW:Below w.heap.size w W:=by rw [hq]; exact below_drewN' _ _
 have hsW:w.heap.size=W.heap.size:=by rw [hq]; rfl
 have cW1:=c1.later hbW (Nat.le_refl _)
 have cW2:=c2.later hbW (Nat.le_refl _)
 have hcYW:=cW2 (n - 1) (by omega)
 have HS:=Lib.hid hsW
 clear hq HCMP hcY c1 c2 hsW
 go_wp2_with fail
 refine (lz32_any _ hE1 hE0 _).mono ?_
 rintro e w' ⟨s,rfl,hs,hs1,hs2,rfl⟩
 go_wp2_with fail
 refine (shifted_core _ g m _ s D _ (by omega) hs (fun _ => rfl) r1.dig cW1).mono ?_
 rintro e w1 ⟨U,rfl,hU,hUd,hUv,hb1⟩
 have cW2':=cW2.later hb1 (Nat.le_refl _)
 go_wp2_with fail
 refine (shifted_core _ g' n _ s E _ (by omega) hs (fun _ => rfl) r2.dig cW2').mono ?_
 rintro e w2 ⟨V,rfl,hV,hVd,hVv,hb2⟩
 go_wp2_with fail
 obtain ⟨ht,hhalf,hVval⟩:=shifted_len hn r2 hs1 hs2 hVd (by rw [hVv,r2.eq])
 refine (trim_pos w1.heap.size (n+1) (n+1) V w2 (Nat.le_refl _) (by omega) hV.cell).mono ?_
 rintro e w' ⟨he,rfl⟩
 rw [ht] at he
 subst he
 have hUv2:fval B32 U (m+1)=X * 2 ^ s:=by rw [hUv,r1.eq]
 have s1:W.heap.size<w1.heap.size:=World.block_lt_of_cell? w1 _ (hU.cell 0 (by omega))
 have s2:w1.heap.size<w2.heap.size:=World.block_lt_of_cell? w2 _ (hV.cell 0 (by omega))
 have s0:=hbW.size
 have hb2w:Below w.heap.size w w2:=hbW.trans ((hb1.mono s0).trans (hb2.mono (by omega)))
 have hb3w:Below w.heap.size w (w2.alloc (.cells (madeCells #[.int .u32 0] (m+1 - n)) 169)):=hb2w.alloc (by omega) _
 have hS:DivInv w W.heap.size w1.heap.size w2.heap.size m n U V (m+1 - n) (fun _ => 0) U (w2.alloc (.cells (madeCells #[.int .u32 0] (m+1 - n)) 169)) :=
  DivInv.start (Arr.made _ _ _) ((hU.later hb2 s1).later (below_alloc _ _) (by omega)) (fun i hi => (hV.later (below_alloc _ _) s2).cell i (by omega)) hb3w (by simp)
   hUd (hi_top_lt hn hnm hs hUd r1.lt hUv2 hhalf)
 have HSt:=Lib.hid hS
 have HV:=Lib.hid hVval
 have HT:=Lib.hid hUv2
 clear cW1 cW2 cW2' hcYW hU hV hb1 hb2 hb2w hb3w hS hVval hUv hUv2 hVv ht
 go_wp2_with fail
 go_loopw [13] (fun iv wr => ∃ (k:Nat) (Q T:Nat→Nat),k≤m+1 - n∧iv=.int .i64 ((k:Int) - 1)∧DivInv w W.heap.size w1.heap.size w2.heap.size m n U V k Q T wr) (fun iv _ => (intOf iv+1).toNat)
 case atStart => exact ⟨m+1 - n,_,U,Nat.le_refl _,by congr 1; omega,HSt.out⟩
 case round =>
  obtain ⟨k,Q,T,hk,rfl,hI⟩:=hrel
  by_cases hlt:0<k
  ·obtain ⟨j,rfl⟩:∃ j,k=j+1:=⟨k - 1,by omega⟩
   have e1:(((j+1:Nat):Int) - 1)=(j:Int):=by omega
   rw [e1]
   clear e1
   have hVd':∀ i,i<n→V i<B32:=fun i hi => hVd i (by omega)
   have hdiv:=(hI.div hk hn hVd' hhalf).1
   have hq0:=hI.q.cell j (by omega)
   have hqf:=hI.q.free j
   go_wp2_with fail
   rw [show j+n+1 - j=n+1 from by omega]
   refine (digitOf_core W.heap.size j n (m+1 - j) (n+1) w1.heap.size (fun i => T (j+i)) V wr (by omega) (by omega) hdiv ⟨fun i hi => hI.u.cell (j+i) (by omega),hI.u.free⟩ hI.v).mono ?_
   rintro e w3 ⟨U',rfl,hA',hUd',hval',hup⟩
   have hq1:w3.cell? ⟨w2.heap.size,j,none⟩=some (.int .u32 (Q j)):=hup.other (g':=w2.heap.size) (n:=m+1 - n) (D:=Q) (by omega) hI.q.cell j (by omega)
   have hqf1:w3.frozen? ⟨w2.heap.size,j,none⟩=false:=by rw [hup.free]; exact hI.q.free j
   have hst:Hid (∀ z:Value,z=.int .u32 ((fval B32 (fun i => T (j+i)) (n+1) / fval B32 V n:Nat):Int)→∃ T',DivInv w W.heap.size w1.heap.size w2.heap.size m n U V j (putD Q j (fval B32 (fun i => T (j+i)) (n+1) / fval B32 V n)) T' (w3.setCell ⟨w2.heap.size,j,none⟩ z)) :=
    fun z hz => hI.step hk hn hVd' hhalf (by omega) (by omega) (by omega) s0 (by omega) hA'.cell hUd' hval' hup hz
   clear hI hA' hUd' hval' hup hdiv hVd' hq0 hqf
   go_wp2_with fail
   go_roundw
   case rel =>
    obtain ⟨T',hT'⟩:=hst.out _ rfl
    exact ⟨j,_,T',by omega,rfl,hT'⟩
   case measure => simp [intOf]
  ·obtain rfl:k=0:=by omega
   clear hlt
   have hE:=hI.eq
   have hR:=hI.rest
   rw [hi_zero,hi_zero,hi_zero,HT.out,HV.out] at hE
   rw [hi_zero,HV.out] at hR
   have hVn:=fval_lt n (fun i hi => hVd i (by omega))
   have hz:=fval_high_zero (B:=B32) (k:=n) (by decide) (Nat.lt_trans hR (by rw [HV.out] at hVn; exact hVn))
   have hTn:fval B32 T (m+1)=fval B32 T n:=fval_zeros (by omega) hz
   have hQR:=shift_div (Nat.pow_pos (by decide)) hE hR
   rw [hTn] at hQR
   have htr:=Rep.trim (B:=B32) (D:=T) (n:=n) (fun i hi => hI.udig i (by omega))
   obtain ⟨t,htl⟩:∃ t,t=tlen T n:=⟨_,rfl⟩
   have htn:t≤n:=by rw [htl]; exact tlen_le _ _
   rw [← htl] at htr
   have hTt:fval B32 (cutD T t) t=X % Y * 2 ^ s:=by rw [cutD_val _ _ (Nat.le_refl _),htr.eq,hQR.2]
   have hTd:∀ i,cutD T t i<B32:=fun i => cutD_lt (by decide) htr.dig i
   have hQ1:=hI.q.cell
   have hQd:∀ i,i<m+1 - n→Q i<B32:=fun i hi => hI.qdig i (Nat.zero_le _) hi
   have hA1:Arr wr W.heap.size t (cutD T t):=⟨fun i hi => by rw [hI.u.cell i (by omega)]; simp [cutD,hi],hI.u.free⟩
   have hb1:=hI.below
   have HF:=Lib.hid hQR
   have HTT:=Lib.hid hTt
   have HTL:=Lib.hid htl
   have hUc:=hI.u.cell
   clear hI hE hR hVn hz hTn hQR htr hTt htl
   go_wp2_with fail
   refine (trim_pos W.heap.size n (m+1) T wr (by omega) (by omega) (fun i hi => hUc i (by omega))).mono ?_
   rintro e w' ⟨he,rfl⟩
   rw [← HTL.out] at he
   subst he
   clear hUc HTL
   go_wp2_with fail
   go_loopw [84] (fun iv wx => ∃ i:Nat,i≤t∧iv=.int .i64 (i:Nat)∧ShrInv w W.heap.size w2.heap.size t s (m+1 - n) (cutD T t) Q i wx) (fun iv _ => t - (intOf iv).toNat)
   case atStart => exact ⟨0,Nat.zero_le _,rfl,⟨hA1,hQ1,hb1⟩⟩
   case round =>
    obtain ⟨i,hi,rfl,hI⟩:=hrel
    by_cases hlt:i<t
    ·by_cases hl2:i+1<t
     ·have hci:wr.cell? ⟨W.heap.size,i,none⟩=some (.int .u32 (cutD T t i:Nat)):=by have:=hI.arr.cell i hlt; simpa using this
      have hci2:wr.cell? ⟨W.heap.size,i+1,none⟩=some (.int .u32 (cutD T t (i+1):Nat)):=by have:=hI.arr.cell (i+1) hl2; rw [if_neg (by omega)] at this; exact this
      have hfi:=hI.arr.free i
      have hd1:=hTd i
      have hd2:=hTd (i+1)
      have hst:Hid (∀ z y:Value,z=.int .u32 (shrD (cutD T t) s i:Nat)→y=.int .u32 ((cutD T t i / 2 ^ s:Nat):Int) →
        ShrInv w W.heap.size w2.heap.size t s (m+1 - n) (cutD T t) Q (i+1) ((wr.setCell ⟨W.heap.size,i,none⟩ y).setCell ⟨W.heap.size,i,none⟩ z).drew) :=
       fun z y hz hy => (hI.pre hlt (by omega) s0 hz _ hy).drew
      clear hI hA1 hQ1 hb1
      go_wp2_with fail
      go_region
      all_goals go_wp2
      all_goals (refine ⟨⟨i+1,by omega,by go_num,hst.out _ _ (shr_or hd1 hd2 hs) (by rw [div_pow_int])⟩,by simp [intOf]; omega⟩)
     ·have hci:wr.cell? ⟨W.heap.size,i,none⟩=some (.int .u32 (cutD T t i:Nat)):=by have:=hI.arr.cell i hlt; simpa using this
      have hfi:=hI.arr.free i
      have hsh:Hid (shrD (cutD T t) s i=cutD T t i / 2 ^ s):=by
       show shrD (cutD T t) s i=cutD T t i / 2 ^ s
       unfold shrD
       rw [show cutD T t (i+1)=0 from by simp [cutD]; omega]
       simp
      have hst:Hid (∀ z:Value,z=.int .u32 (shrD (cutD T t) s i:Nat)→ShrInv w W.heap.size w2.heap.size t s (m+1 - n) (cutD T t) Q (i+1) (wr.setCell ⟨W.heap.size,i,none⟩ z)) :=
       fun z hz => hI.put hlt (by omega) s0 hz
      clear hI hA1 hQ1 hb1
      go_wp2_with fail
      go_roundw
      case rel => exact ⟨i+1,by omega,by go_num,hst.out _ (by rw [hsh.out,div_pow_int])⟩
      case measure => simp [intOf]; omega
    ·obtain rfl:i=t:=by omega
     have hR:∀ k,k<i→shrD (cutD T i) s k=cutD T i k / 2 ^ s+cutD T i (k+1) % 2 ^ s * 2 ^ (32 - s):=fun k hk => rfl
     have hval:Hid (fval B32 (shrD (cutD T i) s) i=X % Y):=shr_val hs hR (by simp [cutD]) HTT.out
     have hRd:∀ k,k<i→shrD (cutD T i) s k<B32:=fun k hk => shr_lt hs (hTd k)
     have hA2:Cells wr W.heap.size i (shrD (cutD T i) s):=fun k hk => by have:=hI.arr.cell k hk; simp only [hk,if_true] at this; exact this
     have hq2:=hI.q
     have hbb:=hI.below
     clear hI hA1 hQ1 hb1 hR
     go_wp2_with fail
     refine (trim_any (n:=m+1 - n) (D:=Q) (.inr ⟨_,_,rfl,Nat.le_refl _,by omega,hq2⟩)).mono ?_
     rintro e w' h
     obtain ⟨v,rfl,hv,rfl⟩:=h.num hQd
     rw [HF.out.1] at hv
     go_wp2_with fail
     refine (trim_any (n:=i) (D:=shrD (cutD T i) s) (.inr ⟨_,m+1,rfl,by omega,by omega,hA2⟩)).mono ?_
     rintro e w' h
     obtain ⟨u,rfl,hu,rfl⟩:=h.num hRd
     rw [hval.out] at hu
     clear hA2 hq2
     go_wp2
     go_ret2
     exact ⟨_,_,rfl,hv,hu,hbb⟩
theorem div_any {X Y:Nat} {x y:Value} {w:World} (hx:IsN B32 w x X) (hy:IsN B32 w y Y) (sx:Sm X) (h0:Y ≠ 0) :
  Calls Tryz.prog 223 #[x,y] w (RetNN B32 (X / Y) (X % Y) w):=by
 by_cases h:X<Y
 ·exact div_lt hx hy h
 ·have h':Y≤X:=by omega
  obtain ⟨n,E,r2,s2⟩:=id hy
  rcases s2 with ⟨_,hn⟩ | ⟨g',cn,rfl,n1,n2,c2⟩
  ·subst hn; exact absurd ((r2.zero_iff (by decide)).1 rfl) h0
  ·have hn0:n ≠ 0:=fun e => h0 ((r2.zero_iff (by decide)).1 e)
   by_cases hn1:n=1
   ·subst hn1
    exact divOne_any hx sx r2 c2 n1 n2 h'
   ·obtain ⟨m,D,r1,s1⟩:=hx
    have hnm:n≤m:=r2.len_mono (by decide) r1 h'
    rcases s1 with ⟨_,hm⟩ | ⟨g,cm,rfl,m1,m2,c1⟩
    ·omega
    ·exact div_long (by omega) (sx.len r1) r1 r2 m1 m2 n1 n2 c1 c2 h'
set_option maxHeartbeats 800000 in
theorem gcd_any {X Y:Nat} {x y:Value} {w:World} (hx:IsN B32 w x X) (hy:IsN B32 w y Y) (sx:Sm X) (sy:Sm Y) :
  Calls Tryz.prog 201 #[x,y] w (RetN B32 (Nat.gcd X Y) w):=by
 go_enter Tryz.func201,Tryz.ntmps201
 go_wp2
 go_loopg [0,1] Y (fun k p q wr => ∃ a:Nat,IsN B32 wr p a∧IsN B32 wr q k∧Sm a∧Sm k∧Hid (Nat.gcd a k=Nat.gcd X Y)∧Below w.heap.size w wr)
 case atStart => exact ⟨X,hx,hy,sx,sy,rfl,Below.refl _ _⟩
 case round =>
  rename_i p q
  obtain ⟨a,hp,hq,sa,sk,hg,hb⟩:=hrel
  have hk:=hq
  obtain ⟨n,D,r,s⟩:=hk
  obtain ⟨ad,gb,cap,rfl,-,-,-,-⟩:=s.shape
  have hz:=r.zero_iff (by decide)
  by_cases h0:gk=0
  ·subst h0
   obtain rfl:n=0:=hz.2 rfl
   have hgv:Hid (a=Nat.gcd X Y):=by rw [← hg.out,Nat.gcd_zero_right]; rfl
   clear hz r s
   go_wp2
   go_ret
   exact ⟨_,rfl,by rw [← hgv.out]; exact hp,hb⟩
  ·have hn:0<n:=by omega
   have hlt:a % gk<gk:=Nat.mod_lt _ (by omega)
   have hgv:Hid (Nat.gcd gk (a % gk)=Nat.gcd X Y):=by
    show Nat.gcd gk (a % gk)=_
    rw [← hg.out,Nat.gcd_comm a gk,Nat.gcd_rec gk a,Nat.gcd_comm]
   have sr:Sm (a % gk):=sk.mono (Nat.le_of_lt hlt)
   have HLT:=Lib.hid hlt
   clear hz r s hlt
   have HD:=Lib.hid (div_any hp hq sa h0)
   clear hp
   go_wp2_with fail
   refine HD.out.mono ?_
   rintro e w' ⟨v,u,rfl,hv,hu,hb'⟩
   clear HD
   go_wp2
   go_roundg (a % gk)
   case measure => exact HLT.out
   case rel => exact ⟨gk,hq.later hb',hu,sk,sr,hgv,hb.trans (hb'.mono hb.size)⟩
end Go.Proofs.YtdbnebhehiiakaaGreatDoor
