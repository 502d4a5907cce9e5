/-
  Journals: what is appended is got, whatever is cut off behind it. No function of the program in sight.
-/
import Derived.Test.YtnncohajlmbedaaJouGet
namespace Go.Proofs.Ytnncohajlmbedaa
open Go.RowKit
namespace Jou
theorem cat_mono (l : List (List UInt8)) {i j : Nat} (h : i ≤ j) : (cat (l.take i)).length ≤ (cat (l.take j)).length := by
  have := Fra.cat_mono (frs l) h
  rw [← frs_take, ← frs_take] at this
  exact this
theorem cat_split (l : List (List UInt8)) {j : Nat} (h : j < l.length) : cat l = cat (l.take j) ++ (Fra.bytes 9 l[j] ++ cat (l.drop (j + 1))) := by
  rw [← cat_one, ← cat_append, ← cat_append]
  congr 1
  conv => lhs; rw [← List.take_append_drop j l, List.drop_eq_getElem_cons h]
  rfl
/-- Where the frames that are whole in the first n bytes end: K of them. -/
theorem whole_count (l : List (List UInt8)) (n : Nat) : ∃ K, K ≤ l.length ∧ (cat (l.take K)).length ≤ n ∧ ∀ j, j < l.length → ((cat (l.take (j + 1))).length ≤ n ↔ j < K) := by
  have key : ∀ N, N ≤ l.length → ∃ K, K ≤ N ∧ (cat (l.take K)).length ≤ n ∧ ∀ j, j < N → ((cat (l.take (j + 1))).length ≤ n ↔ j < K) := by
    intro N
    induction N with
    | zero => intro _; exact ⟨0, Nat.le_refl _, by simp [cat, frs, Fra.cat], fun j hj => by omega⟩
    | succ N ih =>
      intro hN
      obtain ⟨K, h1, h2, h3⟩ := ih (by omega)
      by_cases h : (cat (l.take (N + 1))).length ≤ n
      · have hK : K = N := by
          rcases Nat.lt_or_ge K N with hlt | hge
          · have h4 := (h3 K hlt).1 (Nat.le_trans (cat_mono l (by omega)) h)
            omega
          · omega
        subst hK
        refine ⟨K + 1, Nat.le_refl _, h, fun j hj => ?_⟩
        rcases Nat.lt_or_eq_of_le (Nat.le_of_lt_succ hj) with h4 | h4
        · have := h3 j h4; omega
        · subst h4; omega
      · refine ⟨K, by omega, h2, fun j hj => ?_⟩
        rcases Nat.lt_or_eq_of_le (Nat.le_of_lt_succ hj) with h4 | h4
        · exact h3 j h4
        · subst h4; omega
  exact key _ (Nat.le_refl _)
theorem next_whole (l : List (List UInt8)) (hl : ∀ p ∈ l, p.length ≤ 65535) {j n : Nat} (h : j < l.length) (hn : (cat (l.take (j + 1))).length ≤ n) :
    next ((cat l).take n) (((cat (l.take j)).length : Nat) : Int) = (l[j], (((cat (l.take (j + 1))).length : Nat) : Int), 0) := by
  have e1 := cat_snoc h
  have e2 : (cat (l.take (j + 1))).length = (cat (l.take j)).length + (Fra.bytes 9 l[j]).length := by rw [e1, List.length_append]
  have e : (cat l).take n = cat (l.take j) ++ (Fra.bytes 9 l[j] ++ (cat (l.drop (j + 1))).take (n - (cat (l.take (j + 1))).length)) := by
    rw [cat_split l h, List.take_append, List.take_append, List.take_of_length_le (l := cat (l.take j)) (by omega), List.take_of_length_le (l := Fra.bytes 9 l[j]) (by omega), e2, Nat.sub_sub]
  rw [e, e2]
  exact next_of (Fra.take_bytes _ _ _ _ (hl _ (List.getElem_mem h)))
theorem next_torn (l : List (List UInt8)) (hl : ∀ p ∈ l, p.length ≤ 65535) {j n : Nat} (h : j < l.length) (hn : n < (cat (l.take (j + 1))).length) :
    (next ((cat l).take n) (((cat (l.take j)).length : Nat) : Int)).2.2 ≠ 0 := by
  have e1 := cat_snoc h
  have e2 : (cat (l.take (j + 1))).length = (cat (l.take j)).length + (Fra.bytes 9 l[j]).length := by rw [e1, List.length_append]
  by_cases hp : (cat (l.take j)).length ≤ n
  · have e : (cat l).take n = cat (l.take j) ++ (Fra.bytes 9 l[j]).take (n - (cat (l.take j)).length) := by
      rw [cat_split l h, List.take_append, List.take_append, List.take_of_length_le (l := cat (l.take j)) (by omega)]
      rw [show n - (cat (l.take j)).length - (Fra.bytes 9 l[j]).length = 0 by omega, List.take_zero, List.append_nil]
    rw [e]
    have := Fra.take_cut (cat (l.take j)) 9 l[j] (hl _ (List.getElem_mem h)) (n := n - (cat (l.take j)).length) (by omega)
    rw [next_err this]
    exact this
  · exact next_end (by rw [List.length_take]; omega)
theorem all_cut (l : List (List UInt8)) (hl : ∀ p ∈ l, p.length ≤ 65535) {K n : Nat} (hK : K ≤ l.length) (h1 : (cat (l.take K)).length ≤ n) (h2 : ∀ j, j < l.length → ((cat (l.take (j + 1))).length ≤ n ↔ j < K)) (hn : n ≤ (cat l).length) :
    all ((cat l).take n) = (l.take K, (cat (l.take K)).length) := by
  have hat : ∀ j, j ≤ K → At ((cat l).take n) (l.take j) (cat (l.take j)).length := by
    intro j
    induction j with
    | zero => intro _; exact At.start _
    | succ j ih =>
      intro hj
      have hjl : j < l.length := by omega
      have h3 := next_whole l hl hjl ((h2 j hjl).2 (by omega))
      have h4 := ((ih (by omega)).step h3).1
      rw [List.take_succ_eq_append_getElem hjl, ← List.take_succ_eq_append_getElem hjl]
      rw [List.take_succ_eq_append_getElem hjl]
      rw [List.take_succ_eq_append_getElem hjl] at h4
      exact h4
  refine (hat K (Nat.le_refl _)).stop ?_
  rcases Nat.lt_or_ge K l.length with h3 | h3
  · exact next_torn l hl h3 (by have := h2 K h3; omega)
  · have : K = l.length := by omega
    subst this
    rw [List.take_of_length_le (Nat.le_refl _)] at h1 ⊢
    exact next_end (by rw [List.length_take]; omega)
theorem get_whole (l : List (List UInt8)) (hl : ∀ p ∈ l, p.length ≤ 65535) {j n : Nat} (h : j < l.length) (hn : (cat (l.take (j + 1))).length ≤ n) :
    get ((cat l).take n) (((cat (l.take j)).length : Nat) : Int) l[j].length (Crc.update 0 l[j]) = (l[j], 0) := by
  unfold get
  rw [next_whole l hl h hn]
  simp
theorem get_torn (l : List (List UInt8)) (hl : ∀ p ∈ l, p.length ≤ 65535) {j n : Nat} (h : j < l.length) (hn : n < (cat (l.take (j + 1))).length) (rn rs : Nat) :
    ∃ x, x ≠ 0 ∧ get ((cat l).take n) (((cat (l.take j)).length : Nat) : Int) rn rs = ([], x) := by
  have h1 := next_torn l hl h hn
  exact ⟨_, h1, by unfold get; rw [if_pos h1]⟩
theorem app_at (l : List (List UInt8)) (hl : ∀ p ∈ l, p.length ≤ 65535) {j : Nat} (h : j < l.length) :
    appB (cat (l.take j)) l[j] = cat (l.take (j + 1)) ∧ appK (cat (l.take j)) l[j] = (cat (l.take j)).length ∧ appN l[j] = l[j].length ∧ appS l[j] = Crc.update 0 l[j] ∧ appE l[j] = 0 := by
  have h1 := hl _ (List.getElem_mem h)
  have h2 := all_whole (l.take j) (fun p hp => hl p (List.mem_of_mem_take hp))
  have h3 : ¬ 65535 < l[j].length := by omega
  unfold appB appK appN appS appE
  rw [h2]
  simp only [if_neg h3]
  rw [List.take_of_length_le (Nat.le_refl _), cat_snoc h]
  simp
end Jou
end Go.Proofs.Ytnncohajlmbedaa
