/- Lemmas and contracts, each under its own condition: space.Chunk: the contract. The key of the Hilbert order: the contract. The keys of orders: row, tiled; the closure of space.key: contracts. -/
import Derived.Deep.RegionHeld3
import Derived.IntWalk
import Derived.Laws.EntriesVeiled
import Derived.Test.YtdbnebhehiiakaaGreatDoorS6
import Derived.Test.YtdbnebhehiiakaaGreatDoorS8
namespace Go.Proofs.YtdbnebhehiiakaaGreatDoor
open Go.RowKit
def RetIs (l:List Int) (r:Int) (w:World) (e:Ending) (w':World):Prop:=∃ v,e=.returned (.tuple #[v,.int .i64 r])∧IntsO w' v l∧Below w.heap.size w w'
theorem IntsO.nil (w:World):IntsO w (.slice none 0 0) []:=⟨Ls.nil _ _ _ (by omega),TagV.nil _ _ _ _⟩
theorem cell_far {w:World} {b i g o:Nat} {u:Value} (v:Value) (hne:g<b) (h:w.cell? ⟨g,o,none⟩=some u):(w.setCell ⟨b,i,none⟩ v).drew.cell? ⟨g,o,none⟩=some u:=by
 show (w.setCell ⟨b,i,none⟩ v).cell? ⟨g,o,none⟩=some u
 rw [World.cell?_setCell_other w ⟨b,i,none⟩ ⟨g,o,none⟩ _ (fun e => by injection e with e _; omega)]
 exact h
theorem chunk_bad (d:List DimT) (l:LayT) (c:List Int) (vd vs vo vc:Value) (w:World) (hd:Dims w vd d) (hl:LayR w vs vo l) (hc:Ints w vc c) (hs:StrD d) (h:layoutE d l ≠ 0) :
  Calls Tryz.prog 13 #[vd,layV vs vo l,vc] w (RetIs [] (layoutE d l) w):=by
 have C:=Lib.hid (fun w1 (hb:Below w.heap.size w w1) => layout_any d l vd vs vo w1 (hd.later DimR.lasts hb) (hl.later hb) hs)
 obtain ⟨p1,cap1,rfl,-⟩:=hd.shape
 obtain ⟨p2,cap2,rfl,-⟩:=hl.sides.shape
 obtain ⟨p3,cap3,rfl,-⟩:=hl.over.shape
 obtain ⟨p4,cap4,rfl,-⟩:=hc.shape
 have hne:(layoutE d l != 0)=true:=by rw [bne_iff_ne]; exact h
 obtain ⟨ss,oo,o,t,f,c'⟩:=l
 generalize layoutE d _=r at *
 clear hd hl hs h hc
 go_enter Tryz.func13,Tryz.ntmps13
 go_wp2_with fail
 refine (C.out _ (below_alloc _ _)).mono ?_
 rintro e w1 ⟨rfl,hb⟩
 have HB:=Lib.hid (below_keep (below_alloc _ _) hb)
 clear hb C
 go_wp2
 go_ret2
 exact ⟨_,rfl,IntsO.nil _,HB.out⟩
theorem chunk_shape (d:List DimT) (l:LayT) (c:List Int) (vd vs vo vc:Value) (w:World) (hd:Dims w vd d) (hl:LayR w vs vo l) (hc:Ints w vc c) (hs:StrD d) (h:layoutE d l=0) (h2:c.length ≠ d.length) :
  Calls Tryz.prog 13 #[vd,layV vs vo l,vc] w (RetIs [] 13 w):=by
 have C:=Lib.hid (fun w1 (hb:Below w.heap.size w w1) => layout_any d l vd vs vo w1 (hd.later DimR.lasts hb) (hl.later hb) hs)
 rw [h] at C
 obtain ⟨p1,cap1,rfl,-⟩:=hd.shape
 obtain ⟨p2,cap2,rfl,-⟩:=hl.sides.shape
 obtain ⟨p3,cap3,rfl,-⟩:=hl.over.shape
 obtain ⟨p4,cap4,rfl,-⟩:=hc.shape
 have h3:¬ ((c.length:Int)=d.length):=by omega
 obtain ⟨ss,oo,o,t,f,c'⟩:=l
 clear hd hl hs h hc h2
 go_enter Tryz.func13,Tryz.ntmps13
 go_wp2_with fail
 refine (C.out _ (below_alloc _ _)).mono ?_
 rintro e w1 ⟨rfl,hb⟩
 have HB:=Lib.hid (below_keep (below_alloc _ _) hb)
 clear hb C
 go_wp2
 go_ret2
 exact ⟨_,rfl,IntsO.nil _,HB.out⟩
theorem chunk_range (d:List DimT) (l:LayT) (c:List Int) (vd vs vo vc:Value) (w:World) (hd:Dims w vd d) (hl:LayR w vs vo l) (hc:Ints w vc c) (hs:StrD d) (h:layoutE d l=0) (h2:c.length=d.length) (h3:ofL d c=false) :
  Calls Tryz.prog 13 #[vd,layV vs vo l,vc] w (RetIs [] 3 w):=by
 have C:=Lib.hid (fun w1 (hb:Below w.heap.size w w1) => layout_any d l vd vs vo w1 (hd.later DimR.lasts hb) (hl.later hb) hs)
 have CO:=Lib.hid (fun w1 (hb:Below w.heap.size w w1) => ofD_any d c vd vc w1 (hd.later DimR.lasts hb) (hc.later IntR.lasts hb))
 rw [h] at C
 rw [show ofB d c=false from by unfold ofB; rw [h3,Bool.and_false]] at CO
 obtain ⟨p1,cap1,rfl,-⟩:=hd.shape
 obtain ⟨p2,cap2,rfl,-⟩:=hl.sides.shape
 obtain ⟨p3,cap3,rfl,-⟩:=hl.over.shape
 obtain ⟨p4,cap4,rfl,-⟩:=hc.shape
 obtain ⟨ss,oo,o,t,f,c'⟩:=l
 simp only [h2] at CO ⊢
 clear hd hl hs h hc h2 h3
 go_enter Tryz.func13,Tryz.ntmps13
 go_wp2_with fail
 refine (C.out _ (below_alloc _ _)).mono ?_
 rintro e w1 ⟨rfl,hb⟩
 have HB:=Lib.hid (below_keep (below_alloc _ _) hb)
 clear hb C
 go_wp2_with fail
 refine (CO.out _ HB.out).mono ?_
 rintro e w2 ⟨rfl,hb⟩
 have HB2:=Lib.hid (below_keep HB.out hb)
 clear hb CO
 go_wp2
 go_ret2
 exact ⟨_,rfl,IntsO.nil _,HB2.out⟩
set_option maxHeartbeats 6400000 in
set_option maxRecDepth 100000 in
theorem chunk_core (d:List DimT) (l:LayT) (c:List Int) (vd vs vo vc:Value) (w:World) (hd:Dims w vd d) (hl:LayR w vs vo l) (hc:Ints w vc c) (hs:StrD d) (h:layoutE d l=0) (h2:c.length=d.length) (h3:ofL d c=true) :
  Calls Tryz.prog 13 #[vd,layV vs vo l,vc] w (RetIs (chunkL d l.sides c) 0 w):=by
 have C:=Lib.hid (fun w1 (hb:Below w.heap.size w w1) => layout_any d l vd vs vo w1 (hd.later DimR.lasts hb) (hl.later hb) hs)
 have CO:=Lib.hid (fun w1 (hb:Below w.heap.size w w1) => ofD_any d c vd vc w1 (hd.later DimR.lasts hb) (hc.later IntR.lasts hb))
 have GL:=Lib.hid (layout_good h)
 have GO:=Lib.hid h3
 have HL2:=Lib.hid h2
 rw [h] at C
 rw [show ofB d c=true from by unfold ofB; rw [h3,decide_eq_true h2]; rfl] at CO
 have hd4:=(dims_good GL.out.dims).2.1
 have HDD:=Lib.hid hd
 have HLL:=Lib.hid hl
 have HCC:=Lib.hid hc
 have hmk:=run_makeZ Tryz.underlying36 (d.length:Int) d.length rfl (by omega)
 obtain ⟨p1,cap1,rfl,-⟩:=hd.shape
 obtain ⟨p2,cap2,rfl,-⟩:=hl.sides.shape
 obtain ⟨p3,cap3,rfl,-⟩:=hl.over.shape
 obtain ⟨p4,cap4,rfl,c4,c4'⟩:=hc.shape
 have HBX:=Lib.hid (LayB.made w (.slice p2 l.sides.length cap2) (.slice p3 l.over.length cap3) l 38)
 have HQ:=Lib.hid (chunkL_length (d:=d) (s:=l.sides) (c:=c) GL.out.sides h2)
 obtain ⟨Q,hQ⟩:∃ Q,Q=chunkL d l.sides c:=⟨_,rfl⟩
 rw [← hQ] at HQ ⊢
 have HQE:=Lib.hid hQ
 have e1:=GL.out.sides
 have e2:=GL.out.over
 obtain ⟨ss,oo,o,t,f,c'⟩:=l
 simp only at e1 e2 HQE
 simp only [h2,e1,e2] at CO C HBX HLL HCC c4 ⊢
 clear hd hl hs h hc h2 h3 hQ e1 e2
 go_enter Tryz.func13,Tryz.ntmps13
 go_wp2_with fail
 refine (C.out _ (below_alloc _ _)).mono ?_
 rintro e w1 ⟨rfl,hb⟩
 have HB:=Lib.hid (below_keep (below_alloc _ _) hb)
 have HBX1:=Lib.hid (fun w' (h':Below w1.heap.size w1 w') => HBX.out w' (by simpa using below_keep hb h'))
 have HS1:Hid (w.heap.size<w1.heap.size):=by show _<_; have:=hb.size; simp at this; omega
 clear hb C HBX
 go_wp2_with fail
 refine (CO.out _ HB.out).mono ?_
 rintro e w2 ⟨rfl,hb⟩
 have HB12:=Lib.hid hb
 clear hb CO
 go_wp2
 have HR0:=Lib.hid (RowZ.made w2 d.length)
 obtain ⟨W,hW⟩:∃ W,W=w2.alloc (.cells (madeCells #[.int .i64 0] d.length) 3):=⟨_,rfl⟩
 have HBW:Hid (Below w2.heap.size w2 W):=by show Below _ _ _; rw [hW]; exact below_alloc _ _
 rw [← hW] at HR0 ⊢
 clear hW hmk
 go_loopw [32] (fun iv wr => ∃ i:Nat,i≤d.length∧iv=.int .i64 (i:Nat)∧RowZ wr w2.heap.size (fillL Q i)∧Below w2.heap.size w2 wr) (fun iv _ => d.length - (intOf iv).toNat)
 case atStart => exact ⟨0,Nat.zero_le _,rfl,(by rw [fillL_zero,HQ.out]; exact HR0.out),HBW.out⟩
 case round =>
  obtain ⟨i,hi,rfl,hrz,hb⟩:=hrel
  have HRZ:=Lib.hid hrz
  have HBR:=Lib.hid (below_keep HB12.out hb)
  have HBR2:=Lib.hid hb
  by_cases hlt:i<d.length
  ·obtain ⟨gd,od,x,ea,hx,hr⟩:=Ls.at HDD.out i hlt
   obtain ⟨gs,os,y,ea',hy,hr'⟩:=Ls.at HLL.out.sides i (by rw [GL.out.sides]; exact hlt)
   have hB:=below_keep HB.out HBR.out
   have hw2:w.heap.size<w2.heap.size:=Nat.lt_of_lt_of_le HS1.out HB12.out.size
   have hn1:gd<w2.heap.size:=Nat.lt_trans (World.block_lt_of_cell? _ _ hr.lo) hw2
   have hn3:gs<w2.heap.size:=Nat.lt_trans (World.block_lt_of_cell? _ _ hr') hw2
   have hn2:=hw2
   have hr:=DimR.lasts _ _ _ _ _ hr hB
   have hr':=IntR.lasts _ _ _ _ _ hr' hB
   obtain ⟨gc,oc,z,ea'',hz,hr''⟩:=Ls.at (HCC.out.later IntR.lasts (below_keep HB.out HBR.out)) i (by rw [HL2.out]; exact hlt)
   subst ea ea' ea''
   rw [Nat.mul_one] at hr' hr''
   unfold IntR at hr' hr''
   have hrl:=hr.lo
   obtain ⟨b0,-⟩:=HBX1.out wr HBR.out
   obtain ⟨y',hy'⟩:∃ y',oo[i]? = some y':=⟨_,List.getElem?_eq_getElem (by have:=GL.out.over; simp only at this; omega)⟩
   have gsd:=GL.out.good i y y' hy hy'
   have gx:=(dims_good GL.out.dims).2.2 x (List.mem_of_getElem? hx)
   have gl:=gx.last
   have go:=ofL_good GO.out hx hz
   have hq:Q[i]? = some ((z - x.lo) / y):=by rw [HQE.out]; exact chunkL_get hx hy hz
   have HQI:=Lib.hid hq
   have hcl:=HRZ.out.cell i 0 (by
    unfold fillL
    rw [List.getElem?_append_right (by simp; omega),List.getElem?_replicate,if_pos (by rw [HQ.out,List.length_take,HQ.out]; omega)])
   have hfz:=HRZ.out.free i
   have q1:=gsd.s1
   have q2:=gx.lo
   have q3:=gx.lo'
   have q4:=go.1
   have q5:z≤1073741824:=by omega
   have hsub:IntKind.i64.wrap (z - x.lo)=z - x.lo:=IntWalk.i64_in _ (by omega)
   have hdiv:(z - x.lo).tdiv y=(z - x.lo) / y:=Int.tdiv_eq_ediv_of_nonneg (by omega)
   have hd0:0≤(z - x.lo) / y:=Int.ediv_nonneg (by omega) (by omega)
   have hd1:(z - x.lo) / y≤z - x.lo:=Int.ediv_le_self _ (by omega)
   have hwr:IntKind.i64.wrap ((z - x.lo) / y)=(z - x.lo) / y:=IntWalk.i64_in _ (by omega)
   have hbn:0≤(i:Int)∧(i:Int)<(d.length:Int):=by omega
   have hne:¬ y=0:=by omega
   have ys:y≤64:=gsd.s2
   have K1:Hid (wr.drew.cell? ⟨gd,od+i * 3+1,none⟩=some (.int .i64 x.lo)∧wr.drew.cell? ⟨w.heap.size,0,none⟩=some (.slice (some ⟨gs,os,none⟩) d.length cap2)∧wr.drew.cell? ⟨gs,os+i,none⟩=some (.int .i64 y)):=⟨hrl,b0,hr'⟩
   have K:Hid (∀ v,(wr.setCell ⟨w2.heap.size,i,none⟩ v).drew.cell? ⟨gd,od+i * 3+1,none⟩=some (.int .i64 x.lo)∧(wr.setCell ⟨w2.heap.size,i,none⟩ v).drew.cell? ⟨w.heap.size,0,none⟩=some (.slice (some ⟨gs,os,none⟩) d.length cap2)∧(wr.setCell ⟨w2.heap.size,i,none⟩ v).drew.cell? ⟨gs,os+i,none⟩=some (.int .i64 y)):=fun v =>
    ⟨(cell_far v hn1 hrl),(cell_far v hn2 b0),(cell_far v hn3 hr')⟩
   clear hrz hb hx hy hz hr hy' gsd gx gl go hq hd0 hd1 hn1 hn2 hn3 hw2 hB
   go_wp2
   go_region_held3 (fun w' => w'.cell? ⟨gd,od+i * 3+1,none⟩=some (.int .i64 x.lo)∧w'.cell? ⟨w.heap.size,0,none⟩=some (.slice (some ⟨gs,os,none⟩) d.length cap2)∧w'.cell? ⟨gs,os+i,none⟩=some (.int .i64 y))
    (first | exact K1.out | exact K.out _) (fail)
   have HST:=Lib.hid (HRZ.out.set i ((z - x.lo) / y) (by rw [fillL_length _ _ (by rw [HQ.out]; omega),HQ.out]; omega) rfl)
   rw [fillL_set HQI.out] at HST
   have HBS:=Lib.hid ((HBR2.out.setCell (p:=⟨w2.heap.size,i,none⟩) (Nat.le_refl _) (.int .i64 ((z - x.lo) / y))).drew)
   clear hsub hdiv hwr
   go_wp2
   exact ⟨⟨i+1,by omega,by go_num,HST.out.drew,HBS.out⟩,by show d.length - _<d.length - _; simp [intOf]; omega⟩
  ·obtain rfl:i=d.length:=by omega
   have HF:=Lib.hid HRZ.out
   clear hrz hb
   go_wp2
   go_ret2
   refine ⟨_,rfl,?_,below_keep HB.out HBR.out⟩
   have:=HF.out
   rw [← HQ.out,fillL_end] at this
   exact this.ints HQ.out (Nat.le_refl _) (by omega)
theorem chunk_any (d:List DimT) (l:LayT) (c:List Int) (vd vs vo vc:Value) (w:World) (hd:Dims w vd d) (hl:LayR w vs vo l) (hc:Ints w vc c) (hs:StrD d) :
  Calls Tryz.prog 13 #[vd,layV vs vo l,vc] w (RetIs (chunkQ d l c) (chunkE d l c) w):=by
 unfold chunkQ chunkE
 by_cases h:layoutE d l=0
 ·rw [if_neg (show ¬ (layoutE d l ≠ 0) from fun h' => h' h)]
  by_cases h2:c.length ≠ d.length
  ·rw [if_pos h2,if_neg (by decide)]
   exact chunk_shape d l c vd vs vo vc w hd hl hc hs h h2
  ·rw [if_neg h2]
   have h2:c.length=d.length:=by omega
   cases h3:ofL d c with
   | false => exact chunk_range d l c vd vs vo vc w hd hl hc hs h h2 h3
   | true => exact chunk_core d l c vd vs vo vc w hd hl hc hs h h2 h3
 ·rw [if_pos h,if_neg h]
  exact chunk_bad d l c vd vs vo vc w hd hl hc hs h
def stepZ (q i:Nat) (Y:List Int):List Int :=
 if bits .and .i64 (Y.getD i 0 / 2 ^ q) 1=1 then Y.set 0 (bits .xor .i64 (Y.getD 0 0) (2 ^ q - 1))
 else (Y.set 0 (bits .xor .i64 (Y.getD 0 0) (bits .and .i64 (bits .xor .i64 (Y.getD 0 0) (Y.getD i 0)) (2 ^ q - 1)))).set i
  (bits .xor .i64 ((Y.set 0 (bits .xor .i64 (Y.getD 0 0) (bits .and .i64 (bits .xor .i64 (Y.getD 0 0) (Y.getD i 0)) (2 ^ q - 1)))).getD i 0) (bits .and .i64 (bits .xor .i64 (Y.getD 0 0) (Y.getD i 0)) (2 ^ q - 1)))
def inR (q:Nat):Nat→Nat→List Int→List Int
 | 0,_,Y => Y
 | m+1,i,Y => inR q m (i+1) (stepZ q i Y)
def outR (n:Nat):Nat→List Int→List Int
 | 0,Y => Y
 | 1,Y => Y
 | p+2,Y => outR n (p+1) (inR (p+1) n 0 Y)
def grayR:Nat→Nat→List Int→List Int
 | 0,_,Y => Y
 | m+1,i,Y => grayR m (i+1) (Y.set i (bits .xor .i64 (Y.getD i 0) (Y.getD (i - 1) 0)))
def tR (z:Int):Nat→Int→Int
 | 0,t => t
 | 1,t => t
 | p+2,t => tR z (p+1) (if bits .and .i64 (z / 2 ^ (p+1)) 1=1 then bits .xor .i64 t (2 ^ (p+1) - 1) else t)
def rowK (t:Int) (q:Nat) (k:Int):List Int→Int
 | [] => k
 | c :: l => rowK t q (2 * k+bits .and .i64 (bits .xor .i64 c t / 2 ^ q) 1) l
def keyR (t:Int) (Y:List Int):Nat→Int→Int
 | 0,k => k
 | p+1,k => keyR t Y p (rowK t p k Y)
def hilZ (b:Nat) (y:List Int):Int :=
 let Y:=grayR (y.length - 1) 1 (outR y.length b y)
 keyR (tR (Y.getD (y.length - 1) 0) b 0) Y b 0
theorem stepZ_length (q i:Nat) (Y:List Int):(stepZ q i Y).length=Y.length:=by
 unfold stepZ
 split <;> simp
theorem bit_le (x:Int):0≤bits .and .i64 x 1∧bits .and .i64 x 1≤1:=by
 have h:∃ k:Nat,k≤1∧bits .and .i64 x 1=IntKind.i64.wrap (k:Int):=by
  refine ⟨(BitVec.ofInt 64 x &&& BitVec.ofInt 64 1).toNat,?_,rfl⟩
  rw [BitVec.toNat_and]
  exact Nat.and_le_right
 obtain ⟨k,hk,e⟩:=h
 rw [e,IntWalk.i64_in _ (by omega)]
 omega
theorem pow_le11 {q:Nat} (h:q≤12):(1:Int)≤2 ^ q∧(2:Int) ^ q≤4096:=by
 have:q=0 ∨ q=1 ∨ q=2 ∨ q=3 ∨ q=4 ∨ q=5 ∨ q=6 ∨ q=7 ∨ q=8 ∨ q=9 ∨ q=10 ∨ q=11 ∨ q=12:=by omega
 rcases this with rfl | rfl | rfl | rfl | rfl | rfl | rfl | rfl | rfl | rfl | rfl | rfl | rfl <;> decide
theorem kstep {k d:Int} {s:Nat} (h1:k<2 ^ s) (_d0:0≤d) (d1:d≤1):2 * k+d<2 ^ (s+1):=by
 rw [Int.pow_succ]
 omega
theorem kcap {s:Nat} (h:s≤47):(2:Int) ^ s≤140737488355328:=by
 have h2:(2:Nat) ^ s≤2 ^ 47:=Nat.pow_le_pow_right (by omega) h
 have h3:((2 ^ s:Nat):Int)≤((2 ^ 47:Nat):Int):=by omega
 simpa using h3
theorem below_keep' {w W w1:World} (h0:Below w.heap.size w W) (h:Below w.heap.size W w1):Below w.heap.size w w1:=h0.trans h
set_option maxHeartbeats 16000000 in
set_option maxRecDepth 100000 in
theorem hilbert_any (b:Nat) (tl:Int) (y:List Int) (v:Value) (w:World) (hy:Ints w v y) (h1:1≤y.length) (h4:y.length≤4) (hb:b≤12) :
  Calls Tryz.prog 105 #[.agg #[.int .i64 (b:Int),.int .i64 tl],v] w fun e w' => ∃ u,e=.returned u∧IntsO w' u [hilZ b y]∧Below w.heap.size w w':=by
 have CL:=Lib.hid (fun w1 (hb:Below w.heap.size w w1) => clone_any y v w1 (hy.later IntR.lasts hb) h1 (by omega))
 obtain ⟨a,cap,rfl,-⟩:=hy.shape
 obtain ⟨n,hn⟩:∃ n,n=y.length:=⟨_,rfl⟩
 rw [← hn] at h1 h4 CL ⊢
 have HN:=Lib.hid hn
 clear hy hn
 go_enter Tryz.func105,Tryz.ntmps105
 go_wp2_with fail
 refine (CL.out _ (below_alloc _ _)).mono ?_
 rintro e w1 ⟨g,cp,rfl,hg,hcp,hcp2,hrz,hb1⟩
 rw [← HN.out] at hcp ⊢
 have HRZ:=Lib.hid hrz
 have hg1:w.heap.size<g:=by simp at hg; omega
 have HB1:=Lib.hid (below_keep (below_alloc _ _) hb1)
 have hbx:w1.cell? ⟨w.heap.size,0,none⟩=some (.int .i64 (b:Int)):=by
  rw [hb1.cell (p:=⟨w.heap.size,0,none⟩) (by simp),World.cell?_alloc_at _ _ _ _ rfl]; rfl
 have HBX:=Lib.hid hbx
 clear hrz hb1 CL hg
 go_wp2
 clear hbx
 go_loopg [5] b (fun p qv wr => p≤b∧∃ Y,qv=.int .i64 ((p:Int) - 1)∧Hid (Y.length=n)∧Hid (outR n p Y=outR n b y)∧RowZ wr g Y∧Below (w.heap.size+1) w1 wr)
 case atStart => exact ⟨Nat.le_refl _,y,rfl,HN.out.symm,rfl,HRZ.out,Below.refl _ _⟩
 case round =>
  obtain ⟨hp,Y,rfl,HYL,HO,hrz,hbr⟩:=hrel
  have HRZ:=Lib.hid hrz
  have HBR:=Lib.hid hbr
  clear hrz hbr
  rcases Nat.lt_or_ge gk 2 with hq | hq
  ·have hY:Hid (Y=outR n b y):=by
    show _=_
    rw [← HO.out]
    have:gk=0 ∨ gk=1:=by omega
    rcases this with rfl | rfl <;> rfl
   have hqn:¬ (1:Int)≤(gk:Int) - 1:=by omega
   clear hq
   go_wp2
   obtain ⟨w0,hw0⟩:∃ w0,w0=wr:=⟨_,rfl⟩
   rw [← hw0] at HRZ HBR ⊢
   clear hw0 hqn hp HO
   go_loopw [9] (fun iv wy => ∃ (i:Nat) (Z:List Int),1≤i∧i≤n∧iv=.int .i64 (i:Nat)∧Hid (Z.length=n)∧Hid (grayR (n - i) i Z=grayR (n - 1) 1 Y)∧RowZ wy g Z∧Below (w.heap.size+1) w1 wy) (fun iv _ => n - (intOf iv).toNat)
   case atStart => exact ⟨1,Y,Nat.le_refl _,h1,rfl,HYL.out,rfl,HRZ.out,HBR.out⟩
   case round =>
    clear HRZ HBR
    obtain ⟨i,Z,hi1,hi,rfl,HZL,HI,hrz,hbr⟩:=hrel
    have HRZ:=Lib.hid hrz
    have HBR:=Lib.hid hbr
    clear hrz hbr
    by_cases hlt:i<n
    ·obtain ⟨k,rfl⟩:∃ k,i=k+1:=⟨i - 1,by omega⟩
     obtain ⟨z,hz⟩:∃ z,Z[k+1]? = some z:=⟨_,List.getElem?_eq_getElem (by rw [HZL.out]; exact hlt)⟩
     obtain ⟨z0,hz0⟩:∃ z0,Z[k]? = some z0:=⟨_,List.getElem?_eq_getElem (by rw [HZL.out]; omega)⟩
     have hci:=HRZ.out.cell (k+1) z hz
     have hc0:=HRZ.out.cell k z0 hz0
     have hfi:=HRZ.out.free (k+1)
     have gz:Z.getD (k+1) 0=z:=by rw [List.getD_eq_getElem?_getD,hz]; rfl
     have gz0:Z.getD (k+1 - 1) 0=z0:=by rw [Nat.add_sub_cancel,List.getD_eq_getElem?_getD,hz0]; rfl
     have HIN:Hid (grayR (n - (k+1+1)) (k+1+1) (Z.set (k+1) (bits .xor .i64 z z0))=grayR (n - 1) 1 Y):=by
      have:=HI.out
      rw [show n - (k+1)=(n - (k+1+1))+1 from by omega,grayR,gz,gz0] at this
      exact this
     have HRS:Hid (RowZ (wr.setCell ⟨g,k+1,none⟩ (.int .i64 (bits .xor .i64 z z0))) g (Z.set (k+1) (bits .xor .i64 z z0))):=HRZ.out.set _ _ (by rw [HZL.out]; exact hlt) rfl
     have HBS:=Lib.hid (HBR.out.setCell (p:=⟨g,k+1,none⟩) hg1 (.int .i64 (bits .xor .i64 z z0)))
     have HZL2:Hid ((Z.set (k+1) (bits .xor .i64 z z0)).length=n):=by show _=_; rw [List.length_set]; exact HZL.out
     clear hz hz0 gz gz0
     go_wp2
     have b0:(0:Int)≤(k:Int):=by omega
     have b1:(k:Int)<(n:Int):=by omega
     have b2:(k:Int)+1<(n:Int):=by omega
     have b3:IntKind.i64.wrap ((k:Int)+1 - 1)=(k:Int):=by rw [Int.add_sub_cancel]; exact IntWalk.i64_in _ (by omega)
     have b4:IntKind.i64.wrap (k:Int)=(k:Int):=IntWalk.i64_in _ (by omega)
     have b7:((k:Int)+1).toNat=k+1:=by omega
     have b8:(0:Int)≤(k:Int)+1:=by omega
     go_region
     clear b3 b4
     go_wp2
     exact ⟨⟨k+1+1,_,by omega,by omega,by go_num,HZL2.out,HIN.out,HRS.out.kept rfl,HBS.out.drew⟩,by show n - _<n - _; simp [intOf]; omega⟩
    ·obtain rfl:i=n:=by omega
     obtain ⟨m,rfl⟩:∃ m,i=m+1:=⟨i - 1,by omega⟩
     have HF:Hid (Z=grayR (y.length - 1) 1 (outR y.length b y)):=by
      have:=HI.out
      rw [Nat.sub_self,grayR] at this
      show _=_
      rw [this,hY.out,HN.out]
     obtain ⟨zl,hzl⟩:∃ zl,Z[m]? = some zl:=⟨_,List.getElem?_eq_getElem (by rw [HZL.out]; omega)⟩
     have hcl:=HRZ.out.cell m zl hzl
     have HGL:Hid (Z.getD (y.length - 1) 0=zl):=by
      show _=_
      rw [← HN.out,Nat.add_sub_cancel,List.getD_eq_getElem?_getD,hzl]; rfl
     have hbx:=(HBR.out.cell (p:=⟨w.heap.size,0,none⟩) (Nat.lt_succ_self _)).trans HBX.out
     have HBW:=Lib.hid (below_keep' HB1.out (HBR.out.mono (Nat.le_succ _)))
     clear hzl HI hY
     go_wp2
     go_loop [10,11] (fun tv qv => ∃ (p:Nat) (t:Int),p≤b∧tv=.int .i64 t∧qv=.int .i64 ((p:Int) - 1)∧Hid (tR zl p t=tR zl b 0)) (fun _ qv => (intOf qv+1).toNat)
     case atStart => exact ⟨b,0,Nat.le_refl _,rfl,rfl,rfl⟩
     case round =>
      obtain ⟨p,t,hp,rfl,rfl,HT⟩:=hrel
      rcases Nat.lt_or_ge p 2 with hq | hq
      ·have HTE:Hid (t=tR zl b 0):=by
        show _=_
        rw [← HT.out]
        have:p=0 ∨ p=1:=by omega
        rcases this with rfl | rfl <;> rfl
       have hqn:¬ (1:Int)≤(p:Int) - 1:=by omega
       clear hq HT
       go_wp2
       clear hqn hp
       go_loop [12,13] (fun kv qv => ∃ (p:Nat) (k:Int),p≤b∧kv=.int .i64 k∧qv=.int .i64 ((p:Int) - 1)∧Hid (keyR t Z p k=keyR t Z b 0)∧Hid (0≤k∧k<2 ^ ((b - p) * (m+1)))) (fun _ qv => (intOf qv+1).toNat)
       case atStart => exact ⟨b,0,Nat.le_refl _,rfl,rfl,rfl,(by omega),by rw [Nat.sub_self,Nat.zero_mul]; decide⟩
       case round =>
        obtain ⟨p,k,hp,rfl,rfl,HK,HKB⟩:=hrel
        rcases Nat.eq_zero_or_pos p with h0 | h0
        ·subst h0
         have HKE:Hid (k=hilZ b y):=by
          show _=_
          have h5:hilZ b y=keyR (tR ((grayR (y.length - 1) 1 (outR y.length b y)).getD (y.length - 1) 0) b 0) (grayR (y.length - 1) 1 (outR y.length b y)) b 0:=rfl
          rw [h5,← HF.out,HGL.out,← HTE.out,← HK.out]; rfl
         have e1:((0:Nat):Int) - 1 = -1:=rfl
         rw [e1]
         clear e1
         go_wp2
         go_ret
         refine ⟨_,rfl,⟨⟨_,1,rfl,Nat.le_refl _,by omega,fun _ => ⟨_,0,rfl,fun i x hx => ?_⟩⟩,fun b hb => ?_⟩,HBW.out.trans ((below_alloc _ _).mono HBW.out.size)⟩
         ·have h6:=(List.getElem?_eq_some_iff.1 hx).1
          obtain rfl:i=0:=by simp at h6; omega
          simp only [List.getElem?_cons_zero,Option.some.injEq] at hx
          unfold IntR
          rw [World.cell?_alloc_at _ _ _ _ rfl,← hx,← HKE.out]; rfl
         ·cases hb
          exact ⟨_,(0,0),World.alloc_heap_new _ _⟩
        ·obtain ⟨q,rfl⟩:∃ q,p=q+1:=⟨p - 1,by omega⟩
         have e1:((q+1:Nat):Int) - 1=(q:Int):=by omega
         rw [e1]
         clear e1 h0
         go_wp2
         go_loop [12,119] (fun kv iv => ∃ (i:Nat) (k':Int),i≤m+1∧kv=.int .i64 k'∧iv=.int .i64 (i:Nat)∧Hid (rowK t q k' (Z.drop i)=rowK t q k Z)∧Hid (0≤k'∧k'<2 ^ ((b - (q+1)) * (m+1)+i))) (fun _ iv => m+1 - (intOf iv).toNat)
         case atStart => exact ⟨0,k,Nat.zero_le _,rfl,rfl,rfl,HKB.out.1,HKB.out.2⟩
         case round =>
          obtain ⟨i,k',hi,rfl,rfl,HR,HB⟩:=hrel
          by_cases hlt:i<m+1
          ·obtain ⟨c,hc⟩:∃ c,Z[i]? = some c:=⟨_,List.getElem?_eq_getElem (by rw [HZL.out]; exact hlt)⟩
           have hci:=HRZ.out.cell i c hc
           have hrr:=HR.out
           rw [drop_cons hc,rowK] at hrr
           have HRR:=Lib.hid hrr
           have hbl:=bit_le (bits .xor .i64 c t / 2 ^ q)
           have hs:(b - (q+1)) * (m+1)+i≤47:=by
            have h9:(b - (q+1)) * (m+1)≤11 * (m+1):=Nat.mul_le_mul_right _ (by omega)
            omega
           have hcap:=kcap hs
           have k0:=HB.out.1
           have k1:k'≤140737488355328:=by have:=HB.out.2; omega
           have d0:=hbl.1
           have d1:=hbl.2
           have HST:=Lib.hid (kstep HB.out.2 d0 d1)
           have q0:(0:Int)≤(q:Int):=by omega
           have q64:(q:Int)≤64:=by omega
           clear hc hrr hbl hs hcap
           go_wp2
           exact ⟨⟨i+1,_,by omega,rfl,by go_num,HRR.out,by omega,HST.out⟩,by show m+1 - _<m+1 - _; simp [intOf]; omega⟩
          ·obtain rfl:i=m+1:=by omega
           have hrr:=HR.out
           rw [← HZL.out,List.drop_length,rowK] at hrr
           have HKK:Hid (keyR t Z q k'=keyR t Z b 0):=by
            show _=_
            rw [← HK.out,keyR,← hrr]
           have HBB:Hid (0≤k'∧k'<2 ^ ((b - q) * (m+1))):=by
            have h9:(b - q) * (m+1)=(b - (q+1)) * (m+1)+(m+1):=by
             rw [show b - q=(b - (q+1))+1 from by omega,Nat.succ_mul]
            rw [h9]
            exact HB.out
           clear hrr
           go_wp2
           exact ⟨⟨q,k',by omega,rfl,by congr 1,HKK.out,HBB.out⟩,by simp [intOf]⟩
      ·obtain ⟨r,rfl⟩:∃ r,p=r+2:=⟨p - 2,by omega⟩
       have e1:((r+2:Nat):Int) - 1=((r+1:Nat):Int):=by omega
       rw [e1]
       have HTN:=HT.out
       rw [tR] at HTN
       obtain ⟨q,hqe⟩:∃ q,q=r+1:=⟨_,rfl⟩
       rw [← hqe] at HTN ⊢
       have HT2:=Lib.hid HTN
       have q1:(1:Int)≤(q:Int):=by omega
       have q2:q≤12:=by omega
       have hpw:=pow_le11 q2
       have hL1:=hpw.1
       have hL2:=hpw.2
       have q64:(q:Int)≤64:=by omega
       have HQE:=Lib.hid hqe
       clear e1 HTN hpw hqe hq
       by_cases hbit:bits .and .i64 (zl / 2 ^ q) 1=1
       ·have hbb:(bits .and .i64 (zl / 2 ^ q) 1 == 1)=true:=by rw [hbit]; rfl
        have HT3:=HT2.out
        rw [if_pos hbit] at HT3
        have HT4:=Lib.hid HT3
        clear hbit HT3
        go_wp2
        have hqe:q=r+1:=HQE.out
        exact ⟨⟨q,_,by omega,rfl,by congr 1,HT4.out⟩,by simp [intOf]⟩
       ·have hbb:(bits .and .i64 (zl / 2 ^ q) 1 == 1)=false:=by rw [beq_eq_false_iff_ne]; exact hbit
        have HT3:=HT2.out
        rw [if_neg hbit] at HT3
        have HT4:=Lib.hid HT3
        clear hbit HT3
        go_wp2
        have hqe:q=r+1:=HQE.out
        exact ⟨⟨q,_,by omega,rfl,by congr 1,HT4.out⟩,by simp [intOf]⟩
  ·obtain ⟨p,rfl⟩:∃ p,gk=p+2:=⟨gk - 2,by omega⟩
   have e1:((p+2:Nat):Int) - 1=((p+1:Nat):Int):=by omega
   rw [e1]
   have HON:=HO.out
   rw [outR] at HON
   have HO2:=Lib.hid HON
   obtain ⟨q,hqe⟩:∃ q,q=p+1:=⟨_,rfl⟩
   rw [← hqe] at HO2 ⊢
   have HQE:=Lib.hid hqe
   have q1:1≤q:=by omega
   have q2:q≤12:=by omega
   have hpw:=pow_le11 q2
   have hL1:=hpw.1
   have hL2:=hpw.2
   clear e1 HON hpw hqe
   go_wp2
   obtain ⟨w0,hw0⟩:∃ w0,w0=wr:=⟨_,rfl⟩
   rw [← hw0] at HRZ HBR ⊢
   clear hw0
   go_loopw [30] (fun iv wy => ∃ (i:Nat) (Z:List Int),i≤n∧iv=.int .i64 (i:Nat)∧Hid (Z.length=n)∧Hid (inR q (n - i) i Z=inR q n 0 Y)∧RowZ wy g Z∧Below (w.heap.size+1) w1 wy) (fun iv _ => n - (intOf iv).toNat)
   case atStart => exact ⟨0,Y,Nat.zero_le _,rfl,HYL.out,rfl,HRZ.out,HBR.out⟩
   case round =>
    clear HRZ HBR
    obtain ⟨i,Z,hi,rfl,HZL,HI,hrz,hbr⟩:=hrel
    have HRZ:=Lib.hid hrz
    have HBR:=Lib.hid hbr
    clear hrz hbr
    by_cases hlt:i<n
    ·have HIN:Hid (inR q (n - (i+1)) (i+1) (stepZ q i Z)=inR q n 0 Y):=by
      have:=HI.out
      rw [show n - i=(n - (i+1))+1 from by omega,inR] at this
      exact this
     obtain ⟨z,hz⟩:∃ z,Z[i]? = some z:=⟨_,List.getElem?_eq_getElem (by rw [HZL.out]; exact hlt)⟩
     obtain ⟨z0,hz0⟩:∃ z0,Z[0]? = some z0:=⟨_,List.getElem?_eq_getElem (by rw [HZL.out]; omega)⟩
     have hci:=HRZ.out.cell i z hz
     have hc0:=HRZ.out.cell 0 z0 hz0
     have hf0:=HRZ.out.free 0
     have hfi:=HRZ.out.free i
     have gz:Z.getD i 0=z:=by rw [List.getD_eq_getElem?_getD,hz]; rfl
     have gz0:Z.getD 0 0=z0:=by rw [List.getD_eq_getElem?_getD,hz0]; rfl
     have HZ:=Lib.hid hz
     have HZ0:=Lib.hid hz0
     have HGZ:=Lib.hid gz
     have HGZ0:=Lib.hid gz0
     have i0:(0:Int)≤(i:Int):=by omega
     have i1:(i:Int)<(n:Int):=by omega
     have n0:(0:Int)<(n:Int):=by omega
     have q0:(0:Int)≤(q:Int):=by omega
     have q64:(q:Int)≤64:=by omega
     clear hz hz0 gz gz0
     by_cases hbit:bits .and .i64 (z / 2 ^ q) 1=1
     ·have hbb:(bits .and .i64 (z / 2 ^ q) 1 == 1)=true:=by rw [hbit]; rfl
      have hst:Hid (stepZ q i Z=Z.set 0 (bits .xor .i64 z0 (2 ^ q - 1))):=by
       show _=_
       unfold stepZ
       rw [HGZ.out,HGZ0.out,if_pos hbit]
      have hrs:=HRZ.out.set 0 (bits .xor .i64 z0 (2 ^ q - 1)) (by rw [HZL.out]; omega) rfl
      rw [← hst.out] at hrs
      have HRS:=Lib.hid hrs
      have HZL2:Hid ((stepZ q i Z).length=n):=(stepZ_length q i Z).trans HZL.out
      have HBS:=Lib.hid (HBR.out.setCell (p:=⟨g,0,none⟩) hg1 (.int .i64 (bits .xor .i64 z0 (2 ^ q - 1))))
      clear hbit hrs
      go_wp2
      exact ⟨⟨i+1,_,by omega,by go_num,HZL2.out,HIN.out,HRS.out,HBS.out⟩,by show n - _<n - _; simp [intOf]; omega⟩
     ·have hbb:(bits .and .i64 (z / 2 ^ q) 1 == 1)=false:=by rw [beq_eq_false_iff_ne]; exact hbit
      obtain ⟨y1,hy1⟩:∃ y1,(Z.set 0 (bits .xor .i64 z0 (bits .and .i64 (bits .xor .i64 z0 z) (2 ^ q - 1))))[i]? = some y1:=⟨_,List.getElem?_eq_getElem (by rw [List.length_set,HZL.out]; exact hlt)⟩
      have gy1:(Z.set 0 (bits .xor .i64 z0 (bits .and .i64 (bits .xor .i64 z0 z) (2 ^ q - 1)))).getD i 0=y1:=by rw [List.getD_eq_getElem?_getD,hy1]; rfl
      have hst:Hid (stepZ q i Z=(Z.set 0 (bits .xor .i64 z0 (bits .and .i64 (bits .xor .i64 z0 z) (2 ^ q - 1)))).set i (bits .xor .i64 y1 (bits .and .i64 (bits .xor .i64 z0 z) (2 ^ q - 1)))):=by
       show _=_
       unfold stepZ
       rw [HGZ.out,HGZ0.out,if_neg hbit,gy1]
      have HY1:=Lib.hid hy1
      have HRS:Hid (∀ nq,RowZ ((wr.drewN nq).setCell ⟨g,0,none⟩ (.int .i64 (bits .xor .i64 z0 (bits .and .i64 (bits .xor .i64 z0 z) (2 ^ q - 1))))) g (Z.set 0 (bits .xor .i64 z0 (bits .and .i64 (bits .xor .i64 z0 z) (2 ^ q - 1))))):=fun nq =>
       RowZ.set (w:=wr.drewN nq) (HRZ.out.kept rfl) 0 _ (by rw [HZL.out]; omega) rfl
      have HZL2:Hid ((stepZ q i Z).length=n):=(stepZ_length q i Z).trans HZL.out
      have HRS2:Hid (∀ nq,RowZ (((wr.drewN nq).setCell ⟨g,0,none⟩ (.int .i64 (bits .xor .i64 z0 (bits .and .i64 (bits .xor .i64 z0 z) (2 ^ q - 1))))).setCell ⟨g,i,none⟩ (.int .i64 (bits .xor .i64 y1 (bits .and .i64 (bits .xor .i64 z0 z) (2 ^ q - 1))))) g (stepZ q i Z)):=fun nq => by
       rw [hst.out]
       exact (HRS.out nq).set i _ (by rw [List.length_set,HZL.out]; exact hlt) rfl
      clear hbit hy1 gy1
      go_wp2
      go_quiet (fail)
      have hci2:=(HRS.out nq).cell i y1 HY1.out
      have HBS:=Lib.hid (((HBR.out.trans ((below_drewN' wr nq).mono (by have:=(HRZ.out.tag).lt; omega))).setCell (p:=⟨g,0,none⟩) hg1 (.int .i64 (bits .xor .i64 z0 (bits .and .i64 (bits .xor .i64 z0 z) (2 ^ q - 1))))).setCell (p:=⟨g,i,none⟩) hg1 (.int .i64 (bits .xor .i64 y1 (bits .and .i64 (bits .xor .i64 z0 z) (2 ^ q - 1)))))
      go_wp2
      exact ⟨⟨i+1,_,by omega,by go_num,HZL2.out,HIN.out,(HRS2.out nq),HBS.out⟩,by show n - _<n - _; simp [intOf]; omega⟩
    ·obtain rfl:i=n:=by omega
     have hie:=HI.out
     rw [Nat.sub_self,inR] at hie
     have hqe:q=p+1:=HQE.out
     have HIE:Hid (outR i (p+1) Z=outR i b y):=by
      show _=_
      rw [← HO2.out,hie,hqe]
     clear hie
     go_wp2
     go_roundg (p+1)
     case measure => omega
     case rel => exact ⟨by omega,Z,by congr 1; omega,HZL.out,HIE.out,HRZ.out,HBR.out⟩
theorem row_any (b tl:Int) (y:List Int) (v:Value) (w:World) (hy:Ints w v y) :
  Calls Tryz.prog 104 #[.agg #[.int .i64 b,.int .i64 tl],v] w fun e w' => ∃ u,e=.returned u∧Ints w' u y∧Below w.heap.size w w':=by
 have HY:=Lib.hid hy
 obtain ⟨a,cap,rfl,-⟩:=hy.shape
 clear hy
 go_enter Tryz.func104,Tryz.ntmps104
 go_wp2
 go_ret
 exact ⟨_,rfl,HY.out.later IntR.lasts (below_alloc _ _),below_alloc _ _⟩
theorem RowZ.append_owns {w:World} {base n:Nat} {v:Value} {l:List Int} (h:w.ownsRow base 3 1 v n (l.map (Value.int .i64))) (hn:l.length=n):IntsO w v l:=by
 subst hn
 refine ⟨?_,ownsRow_tag h⟩
 rcases Nat.eq_zero_or_pos l.length with h0 | h0
 ·have hl:l=[]:=List.length_eq_zero_iff.1 h0
  subst hl
  rcases h.2 with ⟨e,-⟩ | ⟨g',cap',cur,e,h1,h2,h3,h4,h5,h6⟩
  ·rw [e]; exact Ls.nil _ _ _ (by omega)
  ·rw [e]; unfold maxLen at h4; exact Ls.nil _ _ _ h4
 ·obtain ⟨g,cap,rfl,-⟩:=h.form h0
  obtain ⟨r1,r2,r3,r4⟩:=RowZ.of_owns h
  exact (r1.ints rfl r3 r4).ints
structure FnOf (fv:Value) (F:List Int→List Int) (n:Nat):Prop where
 ex:∃ (fo:Nat) (ax:Value),fv=.func (.func fo) #[ax] #[]∧(∀ args w,(callFunc fo args).run Tryz.prog w=.ok (.enter fo args) w) ∧
  ∀ (W:World) (v:Value) (y:List Int),Ints W v y→y.length=n→(∀ c ∈ y,0≤c∧c≤4095)→Calls Tryz.prog fo #[ax,v] W fun e W' => ∃ u,e=.returned u∧Ints W' u (F y)∧Below W.heap.size W W'
theorem hilbert_fn (b:Nat) (tl:Int) (n:Nat) (h1:1≤n) (h4:n≤4) (hb:b≤12):FnOf (.func (.func 105) #[.agg #[.int .i64 (b:Int),.int .i64 tl]] #[]) (fun y => [hilZ b y]) n :=
 ⟨_,_,rfl,enters_of Tryz.func105 (by kernel_rfl) rfl,fun W v y hy hn _ => (hilbert_any b tl y v W hy (by omega) (by omega) hb).mono fun e W' ⟨u,he,hu,hb⟩ => ⟨u,he,hu.ints,hb⟩⟩
theorem row_fn (b tl:Int) (n:Nat):FnOf (.func (.func 104) #[.agg #[.int .i64 b,.int .i64 tl]] #[]) (fun y => y) n :=
 ⟨_,_,rfl,enters_of Tryz.func104 (by kernel_rfl) rfl,fun W v y hy _ _ => row_any b tl y v W hy⟩
def subL:List Int→List Int→List Int
 | x :: xs,l :: ls => (x - l) :: subL xs ls
 | _,_ => []
theorem subL_length {x lo:List Int} (h:x.length=lo.length):(subL x lo).length=lo.length:=by
 induction x generalizing lo with
 | nil => cases lo with
  | nil => rfl
  | cons _ _ => simp at h
 | cons a x ih => cases lo with
  | nil => simp at h
  | cons b lo => simp only [subL,List.length_cons] at *; rw [ih (by omega)]
theorem subL_get {x lo:List Int} {i:Nat} {a l:Int} (ha:x[i]? = some a) (hl:lo[i]? = some l):(subL x lo)[i]? = some (a - l):=by
 induction x generalizing lo i with
 | nil => simp at ha
 | cons b x ih => cases lo with
  | nil => simp at hl
  | cons c lo => cases i with
   | zero =>
    simp only [List.getElem?_cons_zero,Option.some.injEq] at ha hl
    subst ha hl
    rfl
   | succ i => exact ih ha hl
set_option maxHeartbeats 4000000 in
set_option maxRecDepth 100000 in
theorem key1_any (F:List Int→List Int) (fv vlo v:Value) (lo x:List Int) (gb gf:Nat) (w:World) (hF:FnOf fv F lo.length) (hb0:w.cell? ⟨gb,0,none⟩=some vlo) (hf:w.cell? ⟨gf,0,none⟩=some fv) (hlo:Ints w vlo lo) (hv:Ints w v x) (hl:x.length=lo.length)
  (h1:1≤lo.length) (h4:lo.length≤4) (hr:∀ (i:Nat) (a l:Int),x[i]? = some a→lo[i]? = some l→0≤a - l∧a - l≤4095) :
  Calls Tryz.prog 107 #[v,.pointer (some ⟨gb,0,none⟩),.pointer (some ⟨gf,0,none⟩)] w fun e w' => ∃ u,e=.returned u∧Ints w' u (F (subL x lo))∧Below w.heap.size w w':=by
 obtain ⟨fo,ax,rfl,eg,hof⟩:=hF
 have HOF:=Lib.hid hof
 have HLO:=Lib.hid hlo
 have HV:=Lib.hid hv
 have HR:=Lib.hid hr
 have HQ:=Lib.hid (subL_length hl)
 have HL:=Lib.hid hl
 have hmk:=run_makeZ Tryz.underlying36 (lo.length:Int) lo.length rfl (by omega)
 obtain ⟨a1,c1,rfl,-⟩:=hlo.shape
 obtain ⟨a3,c3,rfl,-⟩:=hv.shape
 rw [hl] at HV ⊢
 obtain ⟨Q,hQ⟩:∃ Q,Q=subL x lo:=⟨_,rfl⟩
 rw [← hQ] at HQ ⊢
 have HQE:=Lib.hid hQ
 have HB0:=Lib.hid hb0
 have HF0:=Lib.hid hf
 clear hof hlo hv hr hl hQ hb0 hf
 go_enter Tryz.func107,Tryz.ntmps107
 go_wp2
 have HR0:=Lib.hid (RowZ.made w lo.length)
 obtain ⟨W,hW⟩:∃ W,W=w.alloc (.cells (madeCells #[.int .i64 0] lo.length) 3):=⟨_,rfl⟩
 have HBW:Hid (Below w.heap.size w W):=by show Below _ _ _; rw [hW]; exact below_alloc _ _
 rw [← hW] at HR0 ⊢
 clear hW hmk
 go_loopw [13] (fun iv wr => ∃ i:Nat,i≤lo.length∧iv=.int .i64 (i:Nat)∧RowZ wr w.heap.size (fillL Q i)∧Below w.heap.size w wr) (fun iv _ => lo.length - (intOf iv).toNat)
 case atStart => exact ⟨0,Nat.zero_le _,rfl,(by rw [fillL_zero,HQ.out]; exact HR0.out),HBW.out⟩
 case round =>
  obtain ⟨i,hi,rfl,hrz,hb⟩:=hrel
  have HRZ:=Lib.hid hrz
  have HBR:=Lib.hid hb
  by_cases hlt:i<lo.length
  ·obtain ⟨ga,oa,a,ea,ha,hra⟩:=Ls.at HV.out i (by rw [HL.out]; exact hlt)
   obtain ⟨gl,ol,l,el,hl,hrl⟩:=Ls.at HLO.out i hlt
   subst ea el
   have hca:=cell_later hra hb
   have hcl:=cell_later hrl hb
   rw [Nat.mul_one] at hca hcl
   have hbx:=cell_later HB0.out hb
   have hcz:=HRZ.out.cell i 0 (by
    unfold fillL
    rw [List.getElem?_append_right (by simp; omega),List.getElem?_replicate,if_pos (by rw [HQ.out,List.length_take,HQ.out]; omega)])
   have hfz:=HRZ.out.free i
   have hrr:=HR.out i a l ha hl
   have r0:=hrr.1
   have r1:=hrr.2
   have hq:Q[i]? = some (a - l):=by rw [HQE.out]; exact subL_get ha hl
   have HQI:=Lib.hid hq
   have hst:=HRZ.out.set i (a - l) (by rw [fillL_length _ _ (by rw [HQ.out]; omega),HQ.out]; omega) rfl
   rw [fillL_set HQI.out] at hst
   have HST:=Lib.hid hst
   have HBS:=Lib.hid (hb.setCell (p:=⟨w.heap.size,i,none⟩) (Nat.le_refl _) (.int .i64 (a - l)))
   clear ha hra hl hrl hrr hq hrz hb hst
   go_wp2
   exact ⟨⟨i+1,by omega,by go_num,HST.out,HBS.out⟩,by show lo.length - _<lo.length - _; simp [intOf]; omega⟩
  ·obtain rfl:i=lo.length:=by omega
   have hfl:=HRZ.out
   rw [← HQ.out,fillL_end] at hfl
   have CF:=Lib.hid (HOF.out wr (.slice (some ⟨w.heap.size,0,none⟩) lo.length lo.length) Q (hfl.ints HQ.out (Nat.le_refl _) (by omega)).ints HQ.out (by
    intro c hc
    obtain ⟨j,hj⟩:=List.mem_iff_getElem?.1 hc
    have hjl:j<lo.length:=by have:=(List.getElem?_eq_some_iff.1 hj).1; rw [HQ.out] at this; exact this
    obtain ⟨a,ha⟩:∃ a,x[j]? = some a:=⟨_,List.getElem?_eq_getElem (by rw [HL.out]; exact hjl)⟩
    obtain ⟨l,hl⟩:∃ l,lo[j]? = some l:=⟨_,List.getElem?_eq_getElem hjl⟩
    rw [HQE.out,subL_get ha hl] at hj
    cases hj
    exact HR.out j a l ha hl))
   have hfx:=cell_later HF0.out hb
   clear hrz hb hfl
   go_wp2_with fail
   refine CF.out.mono ?_
   rintro e w2 ⟨u,rfl,hu,hb2⟩
   have HU:=Lib.hid hu
   have HB2:=Lib.hid (below_keep HBR.out hb2)
   obtain ⟨au,cu,rfl,-⟩:=hu.shape
   clear hu hb2 CF
   go_wp2
   go_ret
   exact ⟨_,rfl,HU.out,HB2.out⟩
end Go.Proofs.YtdbnebhehiiakaaGreatDoor
