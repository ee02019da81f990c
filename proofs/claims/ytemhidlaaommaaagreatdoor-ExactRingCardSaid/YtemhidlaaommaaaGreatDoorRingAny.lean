/- ExactRing's walk, of all pairs. -/
import Derived.ProofKit
import Derived.OpenShut
import Derived.Test.YtemhidlaaommaaaGreatDoorL1
import Derived.Test.YtemhidlaaommaaaGreatDoorRing
namespace Go.Proofs.YtemhidlaaommaaaGreatDoor
open Go.RowKit

theorem ring_any (a b c : Option Addr) (m n k p q r : Nat) (N1 D1 N2 D2 N3 D3 : Nat → Int) (w : World) (hm : Ml w) (h1 : m ≤ p) (h2 : n ≤ q) (h3 : k ≤ r) (l1 : p ≤ maxLen) (l2 : q ≤ maxLen) (l3 : r ≤ maxLen)
    (pa : PairsAt w a m N1 D1) (pb : PairsAt w b n N2 D2) (pc : PairsAt w c k N3 D3) :
    Calls Tryz.prog 9 #[.slice a m p, .slice b n q, .slice c k r] w (RetV (.bool true) w) := by
  unfold maxLen at l1 l2 l3
  by_cases hs : m ≤ 12 ∧ n ≤ 12 ∧ k ≤ 12
  · obtain ⟨s1, s2, s3⟩ := hs
    have bd : ∀ (a : Option Addr) (n : Nat) (N D : Nat → Int), n ≤ 12 → PairsAt w a n N D → Bd 1000 (madeTo N D n) := fun a n N D hn h =>
      (madeTo_bd (n := n) (fun i hi => let ⟨_, _, _, _, h7⟩ := h i hi; h7) n (Nat.le_refl _)).mono (by omega)
    have cc : ∀ (a : Option Addr) (n cap : Nat) (N D : Nat → Int), n ≤ 12 → n ≤ cap → cap ≤ 9223372036854775807 → PairsAt w a n N D → ∀ w1, Below w.heap.size w w1 → Calls Tryz.prog 40 #[.slice a n cap] w1 (RetR (madeTo N D n) w1) :=
      fun a n cap N D hn hc hl h w1 hb => made_any a n cap N D w1 (by omega) hc hl (h.later hb)
    by_cases h0 : madeTo N2 D2 n = 0
    · exact ring_zero _ _ _ a b c m n k p q r w hm s1 s2 s3 (bd a m N1 D1 s1 pa) (bd b n N2 D2 s2 pb) (bd c k N3 D3 s3 pc) (cc a m p N1 D1 s1 h1 l1 pa) (cc b n q N2 D2 s2 h2 l2 pb) (cc c k r N3 D3 s3 h3 l3 pc) h0
    · exact ring_small _ _ _ a b c m n k p q r w hm s1 s2 s3 (bd a m N1 D1 s1 pa) (bd b n N2 D2 s2 pb) (bd c k N3 D3 s3 pc) (cc a m p N1 D1 s1 h1 l1 pa) (cc b n q N2 D2 s2 h2 l2 pb) (cc c k r N3 D3 s3 h3 l3 pc) h0
  · exact ring_big a b c m n k p q r w hm (by omega)

end Go.Proofs.YtemhidlaaommaaaGreatDoor
