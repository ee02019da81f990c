/- ExactOrders' walk, of all pairs. -/
import Derived.ProofKit
import Derived.OpenShut
import Derived.Test.YtemhidlaaommaaaGreatDoorL1
import Derived.Test.YtemhidlaaommaaaGreatDoorOrders
namespace Go.Proofs.YtemhidlaaommaaaGreatDoor
open Go.RowKit

theorem orders_small (X Y Z : Rat) (a b c : Option Addr) (m n k : Nat) (p q r : Nat) (w0 : World) (hm : Ml w0) (h1 : m ≤ 12) (h2 : n ≤ 12) (h3 : k ≤ 12) (bX : Bd 1000 X) (bY : Bd 1000 Y) (bZ : Bd 1000 Z)
    (cX : ∀ w, Below w0.heap.size w0 w → Calls Tryz.prog 40 #[.slice a m p] w (RetR X w)) (cY : ∀ w, Below w0.heap.size w0 w → Calls Tryz.prog 40 #[.slice b n q] w (RetR Y w))
    (cZ : ∀ w, Below w0.heap.size w0 w → Calls Tryz.prog 40 #[.slice c k r] w (RetR Z w)) :
    Calls Tryz.prog 10 #[.slice a m p, .slice b n q, .slice c k r] w0 (RetV (.bool true) w0) := by
  have htr : sgnQ (X - Y) ≤ 0 → sgnQ (Y - Z) ≤ 0 → sgnQ (X - Z) ≤ 0 := sgnQ_trans
  have hXY : sgnQ (X - Y) = 0 → Y = X := fun h => ((sgnQ_eq X Y).1 h).symm
  rcases sgnQ_range (X - Y) with e1 | e1 | e1
  · by_cases h : sgnQ (Y - Z) ≤ 0
    · exact orders_ltle X Y Z a b c m n k p q r w0 hm h1 h2 h3 bX bY bZ cX cY cZ _ _ _ _ _ e1 rfl rfl rfl rfl rfl (by simpa using h) (by have := htr (by omega) h; simpa using this)
    · exact orders_ltgt X Y Z a b c m n k p q r w0 hm h1 h2 h3 bX bY bZ cX cY cZ _ _ _ _ _ e1 rfl rfl rfl rfl rfl (by simpa using h)
  · by_cases h : sgnQ (Y - Z) ≤ 0
    · exact orders_eqle X Y Z a b c m n k p q r w0 hm h1 h2 h3 bX bY bZ cX cY cZ _ _ _ _ _ e1 rfl rfl rfl rfl rfl (by simpa using h) (by have := htr (by omega) h; simpa using this) (hXY e1)
    · exact orders_eqgt X Y Z a b c m n k p q r w0 hm h1 h2 h3 bX bY bZ cX cY cZ _ _ _ _ _ e1 rfl rfl rfl rfl rfl (by simpa using h) (hXY e1)
  · exact orders_gt X Y Z a b c m n k p q r w0 hm h1 h2 h3 bX bY bZ cX cY cZ _ _ _ _ _ e1 rfl rfl rfl rfl rfl trivial

theorem orders_any (a b c : Option Addr) (m n k p q r : Nat) (N1 D1 N2 D2 N3 D3 : Nat → Int) (w : World) (hm : Ml w) (h1 : m ≤ p) (h2 : n ≤ q) (h3 : k ≤ r) (l1 : p ≤ maxLen) (l2 : q ≤ maxLen) (l3 : r ≤ maxLen)
    (pa : PairsAt w a m N1 D1) (pb : PairsAt w b n N2 D2) (pc : PairsAt w c k N3 D3) :
    Calls Tryz.prog 10 #[.slice a m p, .slice b n q, .slice c k r] w (RetV (.bool true) w) := by
  unfold maxLen at l1 l2 l3
  by_cases hs : m ≤ 12 ∧ n ≤ 12 ∧ k ≤ 12
  · obtain ⟨s1, s2, s3⟩ := hs
    have bd : ∀ (a : Option Addr) (n : Nat) (N D : Nat → Int), n ≤ 12 → PairsAt w a n N D → Bd 1000 (madeTo N D n) := fun a n N D hn h =>
      (madeTo_bd (n := n) (fun i hi => let ⟨_, _, _, _, h7⟩ := h i hi; h7) n (Nat.le_refl _)).mono (by omega)
    have cc : ∀ (a : Option Addr) (n cap : Nat) (N D : Nat → Int), n ≤ 12 → n ≤ cap → cap ≤ 9223372036854775807 → PairsAt w a n N D → ∀ w1, Below w.heap.size w w1 → Calls Tryz.prog 40 #[.slice a n cap] w1 (RetR (madeTo N D n) w1) :=
      fun a n cap N D hn hc hl h w1 hb => made_any a n cap N D w1 (by omega) hc hl (h.later hb)
    exact orders_small _ _ _ a b c m n k p q r w hm s1 s2 s3 (bd a m N1 D1 s1 pa) (bd b n N2 D2 s2 pb) (bd c k N3 D3 s3 pc) (cc a m p N1 D1 s1 h1 l1 pa) (cc b n q N2 D2 s2 h2 l2 pb) (cc c k r N3 D3 s3 h3 l3 pc)
  · exact orders_big a b c m n k p q r w hm (by omega)

end Go.Proofs.YtemhidlaaommaaaGreatDoor
