/-
  The plain laws of the stage's theorem of numbers in groups: what is put is taken as it was; what is taken is what was put; a number that is not greater has no more bytes.
-/
import Derived.Test.YtmobgamlednlhaaVarTakes
namespace Go.Proofs.Ytmobgamlednlhaa
open Go.RowKit
namespace Var
theorem take_put (pre rest : List UInt8) (n : Nat) (hn : n < 18446744073709551616) : take (pre ++ (put n ++ rest)) (pre.length : Nat) = (n, ((pre.length + (put n).length : Nat) : Int), 0) := by
  have h1 := put_length n
  unfold take
  rw [if_neg (by simp only [List.length_append]; omega), Int.toNat_natCast, List.drop_left, tk_put0 n hn rest, if_pos rfl, Int.natCast_add]
theorem puts_cons (x : UInt64) (l : List UInt64) : puts (x :: l) = put x.toNat ++ puts l := by simp [puts]
theorem tall_puts (rest : List UInt8) : ∀ (l : List UInt64) (pre : List UInt8) (acc : List Nat), tall (pre ++ (puts l ++ rest)) l.length (pre.length : Nat) acc = (acc ++ l.map UInt64.toNat, ((pre.length + (puts l).length : Nat) : Int), 0)
  | [], pre, acc => by simp [tall, puts]
  | x :: l, pre, acc => by
    have h1 := take_put pre (puts l ++ rest) x.toNat x.toNat_lt
    have h2 := tall_puts rest l (pre ++ put x.toNat) (acc ++ [x.toNat])
    rw [List.append_assoc, ← List.append_assoc (put x.toNat)] at h2
    rw [puts_cons, List.length_cons, tall]
    rw [← List.append_assoc (put x.toNat)] at h1
    rw [h1, if_pos rfl]
    simp only
    rw [List.length_append] at h2
    rw [h2, List.length_append]
    simp only [List.append_assoc, List.map_cons, List.singleton_append, Nat.add_assoc]
theorem rall_puts (pre rest : List UInt8) (l : List UInt64) : rall (pre ++ (puts l ++ rest)) l.length (pre.length : Nat) = (l.map UInt64.toNat, ((pre.length + (puts l).length : Nat) : Int), 0) := by
  have h := tall_puts rest l pre []
  rw [List.nil_append] at h
  unfold rall
  rw [h, if_pos rfl]
theorem ttext_put (pre t rest : List UInt8) (ht : t.length < 18446744073709551616) : ttext (pre ++ (put t.length ++ t ++ rest)) (pre.length : Nat) = (t, ((pre.length + (put t.length ++ t).length : Nat) : Int), 0) := by
  have h1 := take_put pre (t ++ rest) t.length ht
  rw [List.append_assoc (put t.length)]
  unfold ttext
  rw [h1]
  simp only
  rw [if_neg (by simp), Int.toNat_natCast, if_neg (by simp only [List.length_append]; omega)]
  have e : pre ++ (put t.length ++ (t ++ rest)) = (pre ++ put t.length) ++ (t ++ rest) := by rw [List.append_assoc]
  have e2 : pre.length + (put t.length).length = (pre ++ put t.length).length := by rw [List.length_append]
  rw [e, e2, List.take_length_add_append, List.drop_left, List.take_left]
  simp only [List.length_append]
  congr 2
  push_cast
  omega
theorem tk_back : ∀ (l bs : List UInt8) (acc n k : Nat), bs.length ≤ 9 → acc = val bs → (∀ x ∈ bs, 128 ≤ x.toNat) → tk l bs.length acc = (0, n, k) → put n = (bs ++ l).take k
  | [], bs, acc, n, k, _, _, _, h => by simp [tk_nil] at h
  | c :: l, bs, acc, n, k, h9, ha, hg, h => by
    have hcl := c.toNat_lt
    have hacc : acc < 2 ^ (7 * bs.length) := by rw [ha]; exact val_lt bs
    have hf := (tk_facts (c :: l) bs.length acc h9 hacc).1 (by rw [h])
    rw [h] at hf
    have hv : val (bs ++ [c]) = acc + c.toNat % 128 * 2 ^ (7 * bs.length) := by
      rw [val_append, ← ha, val, val, Nat.mul_zero, Nat.add_zero, Nat.mul_comm]
    by_cases h1 : (bs.length = 9 ∧ 1 < c.toNat) ∨ (c.toNat < 128 ∧ c.toNat = 0 ∧ 0 < bs.length)
    · rw [tk_long h1] at h
      simp at h
    · by_cases hc : c.toNat < 128
      · rw [tk_last h1 hc] at h
        simp only [Prod.mk.injEq, true_and] at h
        obtain ⟨h2, h3⟩ := h
        rw [← h2, ← hv, ← h3]
        rw [put_val bs c ⟨hg, hc⟩ (by rw [hv, h2]; exact hf.2.2) (by
          by_cases h0 : bs = []
          · right; exact h0
          · left
            have : 0 < bs.length := List.length_pos_iff.2 h0
            omega)]
        have e : bs ++ c :: l = (bs ++ [c]) ++ l := by simp
        rw [e, show bs.length + 1 = (bs ++ [c]).length by simp, List.take_left]
      · rw [tk_more h1 hc] at h
        have := tk_back l (bs ++ [c]) (acc + c.toNat % 128 * 2 ^ (7 * bs.length)) n k (by simp; omega) hv.symm (by
          intro x hx
          rcases List.mem_append.1 hx with hx | hx
          · exact hg x hx
          · rw [List.mem_singleton] at hx; subst hx; omega) (by rw [List.length_append]; exact h)
        rw [this]
        simp
theorem take_back (b : List UInt8) (n k : Nat) (h : take b 0 = (n, (k : Int), 0)) : put n = b.take k := by
  unfold take at h
  by_cases h0 : (0 : Int) < 0 ∨ (b.length : Int) ≤ 0
  · rw [if_pos h0] at h
    simp at h
  · rw [if_neg h0] at h
    by_cases h1 : (tk (b.drop (0 : Int).toNat) 0 0).1 = 0
    · rw [if_pos h1] at h
      simp only [Prod.mk.injEq] at h
      have e : b.drop (0 : Int).toNat = b := by simp
      rw [e] at h h1
      have h2 : tk b ([] : List UInt8).length 0 = (0, n, k) := by
        show tk b 0 0 = _
        obtain ⟨a1, a2, a3, ea⟩ : ∃ a1 a2 a3, tk b 0 0 = (a1, a2, a3) := ⟨_, _, _, rfl⟩
        rw [ea] at h h1 ⊢
        simp only at h h1 ⊢
        rw [h1, h.1]
        congr 2
        have := h.2.1
        omega
      have := tk_back b [] 0 n k (by simp) rfl (by simp) h2
      rw [this]
      rfl
    · rw [if_neg h1] at h
      simp only [Prod.mk.injEq] at h
      exact absurd h.2.2 h1
theorem putF_le : ∀ (f a b : Nat), a ≤ b → (putF f a).length ≤ (putF f b).length
  | 0, _, _, _ => by simp [putF]
  | f + 1, a, b, h => by
    unfold putF
    by_cases ha : a < 128
    · rw [if_pos ha]
      split <;> simp
    · rw [if_neg ha, if_neg (by omega)]
      have := putF_le f (a / 128) (b / 128) (Nat.div_le_div_right h)
      simp only [List.length_cons]
      omega
theorem put_le {a b : Nat} (h : a ≤ b) : (put a).length ≤ (put b).length := putF_le 10 a b h
end Var
end Go.Proofs.Ytmobgamlednlhaa
