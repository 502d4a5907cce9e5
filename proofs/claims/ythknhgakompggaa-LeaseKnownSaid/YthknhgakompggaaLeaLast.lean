/-
  Leases: the last one of a row, found from the front and from the back. No function of the program in sight.
-/
import Derived.Test.YthknhgakompggaaLeaPlain
namespace Go.Proofs.Ythknhgakompggaa
namespace Ls
def at' (ls : List Ls) (k : Nat) : Ls := ls.getD k zero
/-- From the front: of the first k. -/
def lastTo (ls : List Ls) : Nat → Ls
  | 0 => zero
  | k + 1 => if k = 0 ∨ (lastTo ls k).ep < (at' ls k).ep then at' ls k else lastTo ls k
/-- From the back: of the last k. -/
def backTo (ls : List Ls) : Nat → Ls
  | 0 => zero
  | k + 1 => if k = 0 ∨ (backTo ls k).ep ≤ (at' ls (ls.length - 1 - k)).ep then at' ls (ls.length - 1 - k) else backTo ls k
theorem lastTo_next {ls : List Ls} {k : Nat} {a b : Ls} (ha : a = lastTo ls k) (hb : at' ls k = b) (h : a.ep < b.ep) : lastTo ls (k + 1) = b := by
  subst ha hb
  rw [lastTo, if_pos (.inr h)]
theorem lastTo_stay {ls : List Ls} {k : Nat} {a b : Ls} (h0 : ¬ k = 0) (ha : a = lastTo ls k) (hb : at' ls k = b) (h : ¬ a.ep < b.ep) : lastTo ls (k + 1) = a := by
  subst ha hb
  rw [lastTo, if_neg (fun h' => h'.elim h0 h)]
theorem backTo_first {ls : List Ls} {k : Nat} {b : Ls} (h : k = 0) (hb : at' ls (ls.length - 1 - k) = b) : backTo ls (k + 1) = b := by
  subst hb
  rw [backTo, if_pos (.inl h)]
theorem backTo_next {ls : List Ls} {k : Nat} {a b : Ls} (ha : a = backTo ls k) (hb : at' ls (ls.length - 1 - k) = b) (h : a.ep ≤ b.ep) : backTo ls (k + 1) = b := by
  subst ha hb
  rw [backTo, if_pos (.inr h)]
theorem backTo_stay {ls : List Ls} {k : Nat} {a b : Ls} (h0 : ¬ k = 0) (ha : a = backTo ls k) (hb : at' ls (ls.length - 1 - k) = b) (h : ¬ a.ep ≤ b.ep) : backTo ls (k + 1) = a := by
  subst ha hb
  rw [backTo, if_neg (fun h' => h'.elim h0 h)]
theorem lastTo_spec (ls : List Ls) : ∀ k, 0 < k → ∃ i, i < k ∧ lastTo ls k = at' ls i ∧ (∀ j, j < k → (at' ls j).ep ≤ (at' ls i).ep) ∧ ∀ j, j < i → (at' ls j).ep < (at' ls i).ep
  | 0, h => absurd h (by omega)
  | 1, _ => ⟨0, by omega, by simp [lastTo], fun j hj => by obtain rfl : j = 0 := by omega
                                                           exact Nat.le_refl _, fun j hj => absurd hj (by omega)⟩
  | k + 2, _ => by
    obtain ⟨i, hi, he, hm, hs⟩ := lastTo_spec ls (k + 1) (by omega)
    by_cases hlt : (lastTo ls (k + 1)).ep < (at' ls (k + 1)).ep
    · refine ⟨k + 1, by omega, by rw [lastTo, if_pos (.inr hlt)], fun j hj => ?_, fun j hj => ?_⟩
      · by_cases hjk : j = k + 1
        · subst hjk; exact Nat.le_refl _
        · have := hm j (by omega); rw [he] at hlt; omega
      · have := hm j (by omega); rw [he] at hlt; omega
    · refine ⟨i, by omega, by rw [lastTo, if_neg (fun h => h.elim (fun h => absurd h (by omega)) hlt), he], fun j hj => ?_, hs⟩
      by_cases hjk : j = k + 1
      · subst hjk; rw [he] at hlt; omega
      · exact hm j (by omega)
theorem backTo_spec (ls : List Ls) : ∀ k, 0 < k → k ≤ ls.length → ∃ i, ls.length - k ≤ i ∧ i < ls.length ∧ backTo ls k = at' ls i ∧ (∀ j, ls.length - k ≤ j → j < ls.length → (at' ls j).ep ≤ (at' ls i).ep) ∧ ∀ j, ls.length - k ≤ j → j < i → (at' ls j).ep < (at' ls i).ep
  | 0, h, _ => absurd h (by omega)
  | 1, _, hn => ⟨ls.length - 1, by omega, by omega, by simp [backTo], fun j h1 h2 => by obtain rfl : j = ls.length - 1 := by omega
                                                                                        exact Nat.le_refl _, fun j h1 h2 => absurd h2 (by omega)⟩
  | k + 2, _, hn => by
    obtain ⟨i, hi, hi2, he, hm, hs⟩ := backTo_spec ls (k + 1) (by omega) (by omega)
    by_cases hle : (backTo ls (k + 1)).ep ≤ (at' ls (ls.length - 1 - (k + 1))).ep
    · refine ⟨ls.length - 1 - (k + 1), by omega, by omega, by rw [backTo, if_pos (.inr hle)], fun j h1 h2 => ?_, fun j h1 h2 => absurd h2 (by omega)⟩
      by_cases hjk : j = ls.length - 1 - (k + 1)
      · subst hjk; exact Nat.le_refl _
      · have := hm j (by omega) h2; rw [he] at hle; omega
    · refine ⟨i, by omega, hi2, by rw [backTo, if_neg (fun h => h.elim (fun h => absurd h (by omega)) hle), he], fun j h1 h2 => ?_, fun j h1 h2 => ?_⟩
      · by_cases hjk : j = ls.length - 1 - (k + 1)
        · subst hjk; rw [he] at hle; omega
        · exact hm j (by omega) h2
      · by_cases hjk : j = ls.length - 1 - (k + 1)
        · subst hjk; rw [he] at hle; omega
        · exact hs j (by omega) h2
theorem last_same (ls : List Ls) : lastTo ls ls.length = backTo ls ls.length := by
  by_cases h0 : ls.length = 0
  · rw [h0]; rfl
  · obtain ⟨i, hi, he, hm, hs⟩ := lastTo_spec ls ls.length (by omega)
    obtain ⟨j, _, hj, he', hm', hs'⟩ := backTo_spec ls ls.length (by omega) (Nat.le_refl _)
    have hij : i = j := by
      rcases Nat.lt_trichotomy i j with h | h | h
      · have h1 := hs' i (by omega) h
        have h2 := hm j hj
        omega
      · exact h
      · have h1 := hs j h
        have h2 := hm' i (by omega) hi
        omega
    rw [he, he', hij]
end Ls
end Go.Proofs.Ythknhgakompggaa
