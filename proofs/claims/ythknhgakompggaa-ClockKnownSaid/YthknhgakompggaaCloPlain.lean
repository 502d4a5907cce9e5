/-
  Numbers, together, as they are kept below a greatest one; what is past. No function of the program in sight.
-/
import Derived.Test.YthknhgakompggaaLeaPlain
namespace Go.Proofs.Ythknhgakompggaa
open Go.RowKit
theorem till_lt (a b : Nat) : till a b < 18446744073709551616 := by unfold till; split <;> omega
theorem till_top (b : Nat) : till 18446744073709551615 b = 18446744073709551615 := by unfold till; split <;> omega
/-- The first k numbers, together. -/
def sumTo (l : List UInt64) : Nat → Nat
  | 0 => 0
  | k + 1 => till (sumTo l k) (l.getD k 0).toNat
theorem sumTo_lt (l : List UInt64) : ∀ k, sumTo l k < 18446744073709551616
  | 0 => by simp [sumTo]
  | k + 1 => till_lt _ _
theorem sumTo_step {l : List UInt64} {k : Nat} (h : k < l.length) : sumTo l (k + 1) = till (sumTo l k) l[k].toNat := by
  rw [sumTo, List.getD, List.getElem?_eq_getElem h, Option.getD_some]
theorem sumTo_top {l : List UInt64} {k : Nat} (h : sumTo l k = 18446744073709551615) : ∀ n, k ≤ n → sumTo l n = 18446744073709551615
  | 0, hn => by obtain rfl : k = 0 := by omega
                exact h
  | n + 1, hn => by
    by_cases hk : k = n + 1
    · subst hk; exact h
    · rw [sumTo, sumTo_top h n (by omega), till_top]
def past (c u s : Nat) : Bool := decide (u + s < 18446744073709551616) && decide (u + s < c)
end Go.Proofs.Ythknhgakompggaa
