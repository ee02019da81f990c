/- Lemmas and contracts, each under its own condition: Layer 2 (space) in plain words: names, dimensions, attributes, cells, arrays: when they are valid. Layouts, chunks, boxes and the coordinates of a box, in plain words. -/
import Derived.Test.YtdbnebhehiiakaaGreatDoorV1
namespace Go.Proofs.YtdbnebhehiiakaaGreatDoor
structure DimT where
 name:List UInt8
 lo:Int
 hi:Int
structure AttrT where
 name:List UInt8
 ty:Int
structure CellT where
 co:List Int
 vals:List Va
structure ArrT where
 dims:List DimT
 attrs:List AttrT
 cells:List CellT
def smallB (c:UInt8):Bool:=decide (97≤c.toNat) && decide (c.toNat≤122)
def furtherB (c:UInt8):Bool:=smallB c || (decide (48≤c.toNat) && decide (c.toNat≤57)) || decide (c.toNat=95)
def nameL:Bool→List UInt8→Bool
 | _,[] => true
 | first,c :: r => if smallB c=false∧(first=true ∨ furtherB c=false) then false else nameL false r
def nameB (s:List UInt8):Bool:=decide (1≤s.length) && decide (s.length≤12) && nameL true s
theorem nameL_false (s:List UInt8):nameL false s=s.all furtherB:=by
 induction s with
 | nil => rfl
 | cons c r ih =>
  rw [nameL,ih,List.all_cons]
  cases hs:smallB c <;> cases hf:furtherB c <;> simp
  unfold furtherB at hf
  rw [hs] at hf
  simp at hf
theorem nameB_eq (s:List UInt8):nameB s=(decide (1≤s.length) && decide (s.length≤12) && (match s with | [] => false | c :: _ => smallB c) && s.all furtherB):=by
 unfold nameB
 cases s with
 | nil => rfl
 | cons c r =>
  rw [nameL,nameL_false]
  cases hs:smallB c
  ·simp [hs]
  ·have:furtherB c=true:=by unfold furtherB; rw [hs]; rfl
   simp [this,hs]
def DimT.last (d:DimT):Int:=if d.hi≤1073741824 then d.hi else 1073741824
def boundsB (d:DimT):Bool:=decide (-1073741824≤d.lo) && decide (d.lo≤1073741824) && decide (d.lo≤d.hi) && decide (d.hi≤1073741825)
def dimsL (met:List (List UInt8)):List DimT→Int
 | [] => 0
 | x :: r => if nameB x.name=false ∨ x.name ∈ met then 11 else if boundsB x=false then 3 else dimsL (met ++ [x.name]) r
def dimsE (d:List DimT):Int:=if d.length<1 ∨ 4<d.length then 13 else dimsL [] d
def names (d:List DimT):List (List UInt8):=d.map DimT.name
def attrsL (met:List (List UInt8)):List AttrT→Int
 | [] => 0
 | x :: r => if nameB x.name=false ∨ x.name ∈ met then 11 else if x.ty<1 ∨ 4<x.ty then 12 else attrsL (met ++ [x.name]) r
def schemaE (d:List DimT) (a:List AttrT):Int:=if dimsE d ≠ 0 then dimsE d else if a.length<1 ∨ 6<a.length then 9 else attrsL (names d) a
def ofL:List DimT→List Int→Bool
 | d :: ds,x :: xs => if x<d.lo ∨ d.last<x then false else ofL ds xs
 | _,_ => true
def ofB (d:List DimT) (c:List Int):Bool:=decide (c.length=d.length) && ofL d c
def fitsL:List AttrT→List Va→Bool
 | a :: q,v :: vs => if fitsV v a.ty=false then false else fitsL q vs
 | _,_ => true
def cellE (d:List DimT) (a:List AttrT) (c:CellT):Int :=
 if c.co.length ≠ d.length ∨ c.vals.length ≠ a.length then 13 else if ofL d c.co=false then 3 else if fitsL a c.vals=false then 12 else 0
def cmpI:List Int→List Int→Int
 | [],[] => 0
 | [],_ :: _ => -1
 | _ :: _,[] => 1
 | x :: xs,y :: ys => if x<y then -1 else if y<x then 1 else cmpI xs ys
def cellsL (d:List DimT) (a:List AttrT):Option CellT→List CellT→Int
 | _,[] => 0
 | none,c :: r => if cellE d a c ≠ 0 then cellE d a c else cellsL d a (some c) r
 | some b,c :: r => if cellE d a c ≠ 0 then cellE d a c else if cmpI b.co c.co=0 then 5 else if cmpI b.co c.co=1 then 2 else cellsL d a (some c) r
def checkE (x:ArrT):Int :=
 if schemaE x.dims x.attrs ≠ 0 then schemaE x.dims x.attrs else if 4096<x.cells.length then 9 else cellsL x.dims x.attrs none x.cells
theorem cmpI_cases (a b:List Int):cmpI a b = -1 ∨ cmpI a b=0 ∨ cmpI a b=1:=by
 induction a generalizing b with
 | nil => cases b <;> simp [cmpI]
 | cons x xs ih =>
  cases b with
  | nil => simp [cmpI]
  | cons y ys =>
   rw [cmpI]
   split
   ·simp
   ·split
    ·simp
    ·exact ih ys
theorem cmpI_zero {a b:List Int}:cmpI a b=0 ↔ a=b:=by
 induction a generalizing b with
 | nil => cases b <;> simp [cmpI]
 | cons x xs ih =>
  cases b with
  | nil => simp [cmpI]
  | cons y ys =>
   rw [cmpI]
   split
   ·rename_i h
    constructor
    ·intro h'; cases h'
    ·intro h'; simp only [List.cons.injEq] at h'; omega
   ·split
    ·rename_i h
     constructor
     ·intro h'; cases h'
     ·intro h'; simp only [List.cons.injEq] at h'; omega
    ·rw [ih,List.cons.injEq]
     exact ⟨fun h => ⟨by omega,h⟩,fun h => h.2⟩
theorem cmpI_swap (a b:List Int):cmpI b a = - cmpI a b:=by
 induction a generalizing b with
 | nil => cases b <;> rfl
 | cons x xs ih =>
  cases b with
  | nil => rfl
  | cons y ys =>
   rw [cmpI,cmpI]
   by_cases h1:x<y
   ·rw [if_neg (by omega),if_pos h1,if_pos h1]; rfl
   ·by_cases h2:y<x
    ·rw [if_pos h2,if_neg h1,if_pos h2]
    ·rw [if_neg h2,if_neg h1,if_neg h1,if_neg h2,ih]
theorem cmpI_trans {a b c:List Int} (h1:cmpI a b = -1) (h2:cmpI b c = -1):cmpI a c = -1:=by
 induction a generalizing b c with
 | nil =>
  cases b with
  | nil => rw [cmpI] at h1; cases h1
  | cons y ys =>
   cases c with
   | nil => rw [cmpI] at h2; cases h2
   | cons z zs => rfl
 | cons x xs ih =>
  cases b with
  | nil => rw [cmpI] at h1; cases h1
  | cons y ys =>
   cases c with
   | nil => rw [cmpI] at h2; cases h2
   | cons z zs =>
    rw [cmpI] at h1 h2 ⊢
    by_cases a1:x<y
    ·by_cases a2:y<z
     ·rw [if_pos (by omega)]
     ·by_cases a3:z<y
      ·rw [if_neg a2,if_pos a3] at h2; cases h2
      ·rw [if_pos (by omega)]
    ·by_cases a2:y<x
     ·rw [if_neg a1,if_pos a2] at h1; cases h1
     ·rw [if_neg a1,if_neg a2] at h1
      by_cases a3:y<z
      ·rw [if_pos (by omega)]
      ·by_cases a4:z<y
       ·rw [if_neg a3,if_pos a4] at h2; cases h2
       ·rw [if_neg a3,if_neg a4] at h2
        rw [if_neg (by omega),if_neg (by omega)]
        exact ih h1 h2
structure LayT where
 sides:List Int
 over:List Int
 order:Int
 tile:Int
 form:Int
 codec:Int
def orderedB (order tile:Int):Bool :=
 if order=1 ∨ order=2 then decide (tile=0) else if order=3 then decide (1≤tile) && decide (tile≤64) else false
def sidesL:Int→List Int→List Int→Option Int
 | n,s :: ss,o :: os => if s<1 ∨ 64<s ∨ o<0 ∨ s<o ∨ 16<o then none else sidesL (n * (s+2 * o)) ss os
 | n,_,_ => some n
def layoutE (d:List DimT) (l:LayT):Int :=
 if dimsE d ≠ 0 then dimsE d
 else if l.sides.length ≠ d.length ∨ l.over.length ≠ d.length then 13
 else match sidesL 1 l.sides l.over with
  | none => 3
  | some n => if 4096<n then 9 else if orderedB l.order l.tile=false ∨ l.form<1 ∨ 3<l.form ∨ l.codec<1 ∨ 3<l.codec then 2 else 0
def chunkL:List DimT→List Int→List Int→List Int
 | d :: ds,s :: ss,x :: xs => (x - d.lo) / s :: chunkL ds ss xs
 | _,_,_ => []
def chunkE (d:List DimT) (l:LayT) (c:List Int):Int :=
 if layoutE d l ≠ 0 then layoutE d l else if c.length ≠ d.length then 13 else if ofL d c=false then 3 else 0
def chunkQ (d:List DimT) (l:LayT) (c:List Int):List Int:=if chunkE d l c=0 then chunkL d l.sides c else []
def nextP:List Int→List Int→List Int→Option (List Int)
 | _ :: ls,h :: hs,x :: xs =>
  match nextP ls hs xs with
  | some ys => some (x :: ys)
  | none => if x=h then none else some ((x+1) :: ls)
 | _,_,_ => none
def ptsL:List Int→List Int→List (List Int)
 | l :: ls,h :: hs => (List.range (h - l+1).toNat).flatMap fun (k:Nat) => (ptsL ls hs).map fun y => (l+(k:Int)) :: y
 | _,_ => [[]]
end Go.Proofs.YtdbnebhehiiakaaGreatDoor
