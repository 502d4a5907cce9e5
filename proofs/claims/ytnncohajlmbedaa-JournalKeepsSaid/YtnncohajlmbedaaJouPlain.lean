/-
  Journals: what payload stands at a place; all of them; what is whole. No function of the program in sight.
-/
import Derived.Test.YtnncohajlmbedaaFraBackLaw
namespace Go.Proofs.Ytnncohajlmbedaa
open Go.RowKit
namespace Jou
def next (b : List UInt8) (p : Int) : List UInt8 × Int × Nat :=
  if (Fra.take b p).2.2.2 ≠ 0 then ([], p, (Fra.take b p).2.2.2) else if (Fra.take b p).1 ≠ 9 then ([], p, 60) else ((Fra.take b p).2.1, (Fra.take b p).2.2.1, 0)
theorem next_err {b : List UInt8} {p : Int} (h : (Fra.take b p).2.2.2 ≠ 0) : next b p = ([], p, (Fra.take b p).2.2.2) := by unfold next; rw [if_pos h]
theorem next_kind {b : List UInt8} {p : Int} (h : (Fra.take b p).2.2.2 = 0) (hk : (Fra.take b p).1 ≠ 9) : next b p = ([], p, 60) := by unfold next; rw [if_neg (by simpa using h), if_pos hk]
theorem next_ok {b : List UInt8} {p : Int} (h : (Fra.take b p).2.2.2 = 0) (hk : (Fra.take b p).1 = 9) : next b p = ((Fra.take b p).2.1, (Fra.take b p).2.2.1, 0) := by unfold next; rw [if_neg (by simpa using h), if_neg (by simpa using hk)]
theorem next_take {b : List UInt8} {p : Int} (h : (next b p).2.2 = 0) : Fra.take b p = (9, (next b p).1, (next b p).2.1, 0) := by
  by_cases h0 : (Fra.take b p).2.2.2 = 0
  · by_cases hk : (Fra.take b p).1 = 9
    · rw [next_ok h0 hk]
      simp only
      rw [← hk, ← h0]
    · rw [next_kind h0 hk] at h
      simp at h
  · rw [next_err h0] at h
    exact absurd h h0
theorem next_of {b : List UInt8} {p : Int} {bd : List UInt8} {nx : Int} (h : Fra.take b p = (9, bd, nx, 0)) : next b p = (bd, nx, 0) := by
  rw [next_ok (by rw [h]) (by rw [h]), h]
theorem next_err_lt (b : List UInt8) (p : Int) : (next b p).2.2 < 100 := by
  have := Fra.take_err b p
  unfold next
  split
  · exact this
  · split <;> simp
theorem next_bound {b : List UInt8} {p : Int} (h : (next b p).2.2 = 0) : (next b p).2.1 ≤ (b.length : Int) ∧ p < (next b p).2.1 ∧ (next b p).1.length ≤ b.length ∧ 0 ≤ p := by
  have ht := next_take h
  have hb := Fra.take_bound b p (by rw [ht])
  have hl := Fra.bd_le b p
  rw [ht] at hb hl
  refine ⟨hb.1, hb.2, hl, ?_⟩
  rcases Int.lt_or_le p 0 with h1 | h1
  · exfalso
    unfold Fra.take at ht
    rw [if_pos (.inl h1)] at ht
    simp at ht
  · exact h1
theorem next_len (b : List UInt8) (p : Int) : (next b p).1.length ≤ b.length := by
  by_cases h : (next b p).2.2 = 0
  · exact (next_bound h).2.2.1
  · unfold next at h ⊢
    split
    · simp
    · split
      · simp
      · rename_i h1 h2
        simp [h1, h2] at h
/-- The payloads from p on, and where they end. -/
def allF (b : List UInt8) : Nat → Nat → List (List UInt8) × Nat
  | 0, p => ([], p)
  | f + 1, p => if (next b p).2.2 = 0 then ((next b p).1 :: (allF b f (next b p).2.1.toNat).1, (allF b f (next b p).2.1.toNat).2) else ([], p)
def all (b : List UInt8) : List (List UInt8) × Nat := allF b (b.length + 1) 0
theorem allF_stop {b : List UInt8} {f p : Nat} (h : (next b p).2.2 ≠ 0) : allF b (f + 1) p = ([], p) := by rw [allF, if_neg h]
theorem allF_go {b : List UInt8} {f p : Nat} {bd : List UInt8} {nx : Nat} (h : next b p = (bd, (nx : Int), 0)) : allF b (f + 1) p = (bd :: (allF b f nx).1, (allF b f nx).2) := by
  rw [allF, h]
  simp
/-- Where one stands: the payloads that were read, the place, and what is left. -/
def At (b : List UInt8) (pre : List (List UInt8)) (p : Nat) : Prop := p ≤ b.length ∧ pre.length ≤ p ∧ ∃ f, b.length < p + f ∧ (pre ++ (allF b f p).1, (allF b f p).2) = all b
theorem At.start (b : List UInt8) : At b [] 0 := ⟨Nat.zero_le _, Nat.le_refl _, b.length + 1, by omega, rfl⟩
theorem At.step {b : List UInt8} {pre : List (List UInt8)} {p : Nat} {bd : List UInt8} {nx : Nat} (h : At b pre p) (ht : next b p = (bd, (nx : Int), 0)) : At b (pre ++ [bd]) nx ∧ p < nx := by
  obtain ⟨h1, h2, f, h3, h4⟩ := h
  have hb := next_bound (b := b) (p := p) (by rw [ht])
  rw [ht] at hb
  simp only at hb
  refine ⟨⟨by omega, by rw [List.length_append, List.length_singleton]; omega, f - 1, by omega, ?_⟩, by omega⟩
  rw [← h4]
  obtain ⟨f, rfl⟩ : ∃ g, f = g + 1 := ⟨f - 1, by omega⟩
  rw [allF_go ht]
  simp
theorem At.stop {b : List UInt8} {pre : List (List UInt8)} {p : Nat} (h : At b pre p) (ht : (next b p).2.2 ≠ 0) : all b = (pre, p) := by
  obtain ⟨h1, h2, f, h3, h4⟩ := h
  obtain ⟨f, rfl⟩ : ∃ g, f = g + 1 := ⟨f - 1, by omega⟩
  rw [← h4, allF_stop ht]
  simp
theorem next_end {b : List UInt8} {p : Nat} (h : b.length ≤ p) : (next b p).2.2 ≠ 0 := by
  have := Fra.take_end h
  rw [next_err this]
  exact this
/-- The frames of payloads. -/
def frs (l : List (List UInt8)) : List Fr := l.map fun p => (9, p)
def cat (l : List (List UInt8)) : List UInt8 := Fra.cat (frs l)
theorem frs_append (l m : List (List UInt8)) : frs (l ++ m) = frs l ++ frs m := List.map_append
theorem cat_append (l m : List (List UInt8)) : cat (l ++ m) = cat l ++ cat m := by unfold cat; rw [frs_append, Fra.cat_append]
theorem cat_one (p : List UInt8) : cat [p] = Fra.bytes 9 p := by unfold cat frs Fra.cat; simp
theorem frs_length (l : List (List UInt8)) : (frs l).length = l.length := List.length_map _
theorem frs_get {l : List (List UInt8)} {j : Nat} (h : j < l.length) : (frs l)[j]'(by rw [frs_length]; exact h) = (9, l[j]) := by unfold frs; simp
theorem frs_take (l : List (List UInt8)) (j : Nat) : frs (l.take j) = (frs l).take j := by unfold frs; rw [List.map_take]
end Jou
/-- A call hands back bytes in memory of its own (or nil), a place, and an error. -/
def JouP (pl : List UInt8) (nx : Int) (x : Nat) (e : TypeId) (w : World) (en : Ending) (w' : World) : Prop :=
  ∃ D c, en = .returned (.tuple #[.slice D pl.length c, .int .i64 nx, .int .i64 (x : Nat)]) ∧ w'.ownsRow w.heap.size e 1 (.slice D pl.length c) pl.length (byts pl) ∧ Below w.heap.size w w'
end Go.Proofs.Ytnncohajlmbedaa
