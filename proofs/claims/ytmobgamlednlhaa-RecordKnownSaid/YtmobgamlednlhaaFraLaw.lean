/-
  Frames: what is read is what was written. No function of the program in sight.
-/
import Derived.Test.YtmobgamlednlhaaFraPlain
namespace Go.Proofs.Ytmobgamlednlhaa
open Go.RowKit
namespace Fra
theorem put_at_ {b : List UInt8} {p v s : Nat} (hv : Var.take b (p : Nat) = (v, (s : Int), 0)) (hs : p < s) (hs2 : s ≤ b.length) : Var.put v = (b.drop p).take (s - p) := by
  refine Var.take_back (b.drop p) v (s - p) ?_
  unfold Var.take at hv ⊢
  rw [if_neg (by omega)] at hv
  rw [if_neg (by rw [List.length_drop]; omega)]
  rw [Int.toNat_natCast] at hv
  simp only [Int.toNat_zero, List.drop_zero]
  by_cases h1 : (Var.tk (b.drop p) 0 0).1 = 0
  · rw [if_pos h1] at hv ⊢
    simp only [Prod.mk.injEq] at hv ⊢
    obtain ⟨e1, e2, _⟩ := hv
    exact ⟨e1, by omega, by trivial⟩
  · rw [if_neg h1] at hv
    simp only [Prod.mk.injEq] at hv
    exact absurd hv.2.2 h1
theorem up_at {b : List UInt8} {q v s : Nat} (hq : q < b.length) (hv : Var.take b ((q : Int) + 1) = (v, (s : Int), 0)) (hs : q + 1 < s) (hl : s + v ≤ b.length) :
    up b[q] ((b.take (s + v)).drop s) = (b.take (s + v)).drop q := by
  have h1 := put_at_ (p := q + 1) (by rw [Int.natCast_add]; exact hv) hs (by omega)
  have h2 : ((b.take (s + v)).drop s).length = v := by rw [List.length_drop, List.length_take]; omega
  unfold up head
  rw [h2, h1]
  have h3 : (b.take (s + v)).drop q = b[q] :: (b.take (s + v)).drop (q + 1) := by
    rw [List.drop_eq_getElem_cons (by rw [List.length_take]; omega)]
    congr 1
    rw [List.getElem_take]
  rw [h3, List.cons_append]
  congr 1
  rw [← List.take_append_drop (s - (q + 1)) ((b.take (s + v)).drop (q + 1)), List.drop_drop, show q + 1 + (s - (q + 1)) = s by omega]
  congr 1
  rw [List.drop_take, List.take_take]
  congr 1
  omega
/-- The bytes at q are those of the frame just where the sum is. -/
theorem bytes_at {b : List UInt8} {q v s : Nat} (hq : q < b.length) (hv : Var.take b ((q : Int) + 1) = (v, (s : Int), 0)) (hs : q + 1 < s) (hl : s + v + 4 ≤ b.length) :
    (bytes b[q] ((b.take (s + v)).drop s)).length = s + v - q + 4 ∧
    ((b.drop q).take (s + v - q + 4) = bytes b[q] ((b.take (s + v)).drop s) ↔ (b.take (s + v + 4)).drop (s + v) = sum4 (Crc.update 0 ((b.take (s + v)).drop q))) := by
  have h1 := up_at hq hv hs (by omega)
  have h2 : ((b.take (s + v)).drop q).length = s + v - q := by rw [List.length_drop, List.length_take]; omega
  unfold bytes
  rw [h1]
  refine ⟨by rw [List.length_append, h2, sum4_length], ?_⟩
  have h3 : (b.drop q).take (s + v - q + 4) = (b.take (s + v)).drop q ++ (b.take (s + v + 4)).drop (s + v) := by
    rw [List.take_add, List.drop_drop, List.drop_take, List.drop_take, show q + (s + v - q) = s + v by omega, show s + v + 4 - (s + v) = 4 by omega]
  rw [h3]
  exact ⟨fun h => List.append_cancel_left h, fun h => by rw [h]⟩
end Fra
end Go.Proofs.Ytmobgamlednlhaa
