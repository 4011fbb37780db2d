/-
  Tables over the sizes of fields, reckoned by the kernel: prime powers, least irreducible polynomials.
-/
import Derived.Test.YtkbppgpegljcoaaIrr
namespace Go.Proofs.Ytkbppgpegljcoaa
open Go.RowKit

theorem pp_table : ∀ q : Nat, q < 65 → ppOf (factors q) = splitN q ∨ q < 2 := by decide +kernel
/-- What is asked of a size: the prime, the exponent, and a place at which an irreducible polynomial is found. -/
def sizeOk (q : Nat) : Bool :=
  (splitN q).1 == 0 || (decide (2 ≤ (splitN q).1) && decide ((splitN q).1 ≤ 64) && decide (1 ≤ (splitN q).2) && decide ((splitN q).2 ≤ 6) && (splitN q).1 ^ (splitN q).2.toNat == (q : Int) &&
    (List.range 64).any fun (n : Nat) => irr (dig n (splitN q).1 (splitN q).2.toNat ++ [1]) (splitN q).1)
theorem size_table : ∀ q : Nat, q < 65 → 2 ≤ q → sizeOk q = true := by decide +kernel

/-- There is a field of the size q. -/
def isField (q : Int) : Bool := decide (0 < (split q).1)
end Go.Proofs.Ytkbppgpegljcoaa
