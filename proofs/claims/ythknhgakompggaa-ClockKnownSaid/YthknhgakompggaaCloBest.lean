/-
  The greatest and the least of some numbers, and the greatest difference of any two. No function of the program in sight.
-/
import Derived.Test.YthknhgakompggaaCloPlain
namespace Go.Proofs.Ythknhgakompggaa
def numAt (l : List UInt64) (k : Nat) : Nat := (l.getD k 0).toNat
theorem numAt_of {l : List UInt64} {k : Nat} (h : k < l.length) : numAt l k = l[k].toNat := by
  unfold numAt
  rw [List.getD, List.getElem?_eq_getElem h, Option.getD_some]
def bestTo (better : Nat → Nat → Bool) (l : List UInt64) : Nat → Nat
  | 0 => numAt l 0
  | k + 1 => if better (numAt l k) (bestTo better l k) = true then numAt l k else bestTo better l k
def gtN (a b : Nat) : Bool := decide (b < a)
def ltN (a b : Nat) : Bool := decide (a < b)
theorem numAt_lt (l : List UInt64) (k : Nat) : numAt l k < 18446744073709551616 := (l.getD k 0).toNat_lt
theorem bestTo_lt (f : Nat → Nat → Bool) (l : List UInt64) : ∀ k, bestTo f l k < 18446744073709551616
  | 0 => numAt_lt l 0
  | k + 1 => by
    rw [bestTo]
    split
    · exact numAt_lt l k
    · exact bestTo_lt f l k
theorem bestTo_step {f : Nat → Nat → Bool} {l : List UInt64} {k a b : Nat} (ha : a = bestTo f l k) (hb : numAt l k = b) (h : f b a = true) : bestTo f l (k + 1) = b := by
  subst ha hb
  rw [bestTo, if_pos h]
theorem bestTo_stay {f : Nat → Nat → Bool} {l : List UInt64} {k a b : Nat} (ha : a = bestTo f l k) (hb : numAt l k = b) (h : f b a = false) : bestTo f l (k + 1) = a := by
  subst ha hb
  rw [bestTo, if_neg (by rw [h]; exact Bool.false_ne_true)]
theorem best_gt (l : List UInt64) : ∀ k, (∀ j, j < k → numAt l j ≤ bestTo gtN l k) ∧ numAt l 0 ≤ bestTo gtN l k ∧ ∃ j, (j < k ∨ j = 0) ∧ bestTo gtN l k = numAt l j
  | 0 => ⟨fun j h => absurd h (by omega), Nat.le_refl _, 0, .inr rfl, rfl⟩
  | k + 1 => by
    obtain ⟨h1, h2, j0, h3, h4⟩ := best_gt l k
    rw [bestTo]
    by_cases h : gtN (numAt l k) (bestTo gtN l k) = true
    · rw [if_pos h]
      have h' : bestTo gtN l k < numAt l k := by simpa [gtN] using h
      refine ⟨fun j hj => ?_, by omega, k, .inl (by omega), rfl⟩
      by_cases hjk : j = k
      · subst hjk; exact Nat.le_refl _
      · have := h1 j (by omega); omega
    · rw [if_neg h]
      have h' : ¬ bestTo gtN l k < numAt l k := by simpa [gtN] using h
      refine ⟨fun j hj => ?_, h2, j0, by omega, h4⟩
      by_cases hjk : j = k
      · subst hjk; omega
      · exact h1 j (by omega)
theorem best_lt (l : List UInt64) : ∀ k, (∀ j, j < k → bestTo ltN l k ≤ numAt l j) ∧ bestTo ltN l k ≤ numAt l 0 ∧ ∃ j, (j < k ∨ j = 0) ∧ bestTo ltN l k = numAt l j
  | 0 => ⟨fun j h => absurd h (by omega), Nat.le_refl _, 0, .inr rfl, rfl⟩
  | k + 1 => by
    obtain ⟨h1, h2, j0, h3, h4⟩ := best_lt l k
    rw [bestTo]
    by_cases h : ltN (numAt l k) (bestTo ltN l k) = true
    · rw [if_pos h]
      have h' : numAt l k < bestTo ltN l k := by simpa [ltN] using h
      refine ⟨fun j hj => ?_, by omega, k, .inl (by omega), rfl⟩
      by_cases hjk : j = k
      · subst hjk; exact Nat.le_refl _
      · have := h1 j (by omega); omega
    · rw [if_neg h]
      have h' : ¬ numAt l k < bestTo ltN l k := by simpa [ltN] using h
      refine ⟨fun j hj => ?_, h2, j0, by omega, h4⟩
      by_cases hjk : j = k
      · subst hjk; omega
      · exact h1 j (by omega)
def skew (l : List UInt64) (n : Nat) : Nat := bestTo gtN l n - bestTo ltN l n
/-- Of number i with the first k ones, beginning with s. -/
def skewIn (l : List UInt64) (i s : Nat) : Nat → Nat
  | 0 => s
  | k + 1 => if numAt l k ≤ numAt l i then max (skewIn l i s k) (numAt l i - numAt l k) else skewIn l i s k
def skewTo (l : List UInt64) (n : Nat) : Nat → Nat
  | 0 => 0
  | i + 1 => skewIn l i (skewTo l n i) n
theorem skewIn_spec (l : List UInt64) (i s : Nat) : ∀ k, s ≤ skewIn l i s k ∧ (∀ j, j < k → numAt l i - numAt l j ≤ skewIn l i s k) ∧ (skewIn l i s k = s ∨ ∃ j, j < k ∧ skewIn l i s k = numAt l i - numAt l j)
  | 0 => ⟨Nat.le_refl _, fun j h => absurd h (by omega), .inl rfl⟩
  | k + 1 => by
    obtain ⟨h1, h2, h3⟩ := skewIn_spec l i s k
    rw [skewIn]
    split
    · refine ⟨by omega, fun j hj => ?_, ?_⟩
      · by_cases hjk : j = k
        · subst hjk; omega
        · have := h2 j (by omega); omega
      · rcases Nat.le_total (skewIn l i s k) (numAt l i - numAt l k) with h | h
        · exact .inr ⟨k, by omega, by omega⟩
        · rcases h3 with h3 | ⟨j, hj, h3⟩
          · exact .inl (by omega)
          · exact .inr ⟨j, by omega, by omega⟩
    · refine ⟨h1, fun j hj => ?_, ?_⟩
      · by_cases hjk : j = k
        · subst hjk; omega
        · exact h2 j (by omega)
      · rcases h3 with h3 | ⟨j, hj, h3⟩
        · exact .inl h3
        · exact .inr ⟨j, by omega, h3⟩
theorem skewTo_spec (l : List UInt64) (n : Nat) : ∀ m, (∀ i j, i < m → j < n → numAt l i - numAt l j ≤ skewTo l n m) ∧ (skewTo l n m = 0 ∨ ∃ i j, i < m ∧ j < n ∧ skewTo l n m = numAt l i - numAt l j)
  | 0 => ⟨fun i j h => absurd h (by omega), .inl rfl⟩
  | m + 1 => by
    obtain ⟨h1, h2⟩ := skewTo_spec l n m
    obtain ⟨g1, g2, g3⟩ := skewIn_spec l m (skewTo l n m) n
    rw [skewTo]
    refine ⟨fun i j hi hj => ?_, ?_⟩
    · by_cases him : i = m
      · subst him; exact g2 j hj
      · have := h1 i j (by omega) hj; omega
    · rcases g3 with g3 | ⟨j, hj, g3⟩
      · rcases h2 with h2 | ⟨i, j, hi, hj, h2⟩
        · exact .inl (by omega)
        · exact .inr ⟨i, j, by omega, hj, by omega⟩
      · exact .inr ⟨m, j, by omega, hj, g3⟩
theorem skew_same (l : List UInt64) (n : Nat) (hn : 0 < n) : skewTo l n n = skew l n := by
  obtain ⟨h1, h2⟩ := skewTo_spec l n n
  obtain ⟨a1, a2, a, a3, a4⟩ := best_gt l n
  obtain ⟨b1, b2, b, b3, b4⟩ := best_lt l n
  have h3 := h1 a b (by omega) (by omega)
  unfold skew
  rcases h2 with h2 | ⟨i, j, hi, hj, h2⟩
  · omega
  · have := a1 i hi
    have := b1 j hj
    omega
theorem skew_ge (l : List UInt64) (n : Nat) {i j : Nat} (hi : i < n) (hj : j < n) : numAt l i - numAt l j ≤ skew l n := by
  have h1 := (best_gt l n).1 i hi
  have h2 := (best_lt l n).1 j hj
  unfold skew
  omega
theorem best_le (l : List UInt64) (n : Nat) : bestTo ltN l n ≤ bestTo gtN l n := by
  have h1 := (best_gt l n).2.1
  have h2 := (best_lt l n).2.1
  omega
end Go.Proofs.Ythknhgakompggaa
