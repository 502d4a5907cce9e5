/-
  The plain law of numbers in groups of seven digits: writing, reading, and that reading gives back what was written. No program in sight.
-/
namespace Go.Proofs.Ytmobgamlednlhaa.Var

def putF : Nat → Nat → List UInt8
  | 0, _ => []
  | f + 1, n => if n < 128 then [UInt8.ofNat n] else UInt8.ofNat (n % 128 + 128) :: putF f (n / 128)
/-- A number below 2^64, written. -/
def put (n : Nat) : List UInt8 := putF 10 n

theorem putF_stable : ∀ (f g n : Nat), n < 2 ^ (7 * (f + 1)) → n < 2 ^ (7 * (g + 1)) → putF (f + 1) n = putF (g + 1) n
  | f, g, n, hf, hg => by
    unfold putF
    by_cases h : n < 128
    · rw [if_pos h, if_pos h]
    · rw [if_neg h, if_neg h]
      cases f with
      | zero => simp at hf; omega
      | succ f =>
        cases g with
        | zero => simp at hg; omega
        | succ g =>
          congr 1
          refine putF_stable f g (n / 128) ?_ ?_
          · rw [Nat.div_lt_iff_lt_mul (by omega)]
            have e : 2 ^ (7 * (f + 1 + 1)) = 2 ^ (7 * (f + 1)) * 128 := by rw [show 7 * (f + 1 + 1) = 7 * (f + 1) + 7 by omega, Nat.pow_add]
            omega
          · rw [Nat.div_lt_iff_lt_mul (by omega)]
            have e : 2 ^ (7 * (g + 1 + 1)) = 2 ^ (7 * (g + 1)) * 128 := by rw [show 7 * (g + 1 + 1) = 7 * (g + 1) + 7 by omega, Nat.pow_add]
            omega
theorem put_small {n : Nat} (h : n < 128) : put n = [UInt8.ofNat n] := by
  unfold put putF; rw [if_pos h]
theorem put_big {n : Nat} (h : 128 ≤ n) (h2 : n < 18446744073709551616) : put n = UInt8.ofNat (n % 128 + 128) :: put (n / 128) := by
  have e : putF 10 n = UInt8.ofNat (n % 128 + 128) :: putF 9 (n / 128) := by
    rw [putF, if_neg (by omega)]
  unfold put
  rw [e, putF_stable 8 9 (n / 128) (by omega) (by omega)]
theorem put_len : ∀ (f n : Nat), 1 ≤ (putF (f + 1) n).length ∧ (putF (f + 1) n).length ≤ f + 1
  | 0, n => by unfold putF; split <;> simp [putF]
  | f + 1, n => by
    unfold putF
    have := put_len f (n / 128)
    split
    · simp
    · simp only [List.length_cons]; omega
theorem put_length (n : Nat) : 1 ≤ (put n).length ∧ (put n).length ≤ 10 := put_len 9 n
theorem more_or : ∀ k : Fin 256, k.val ||| 128 = k.val % 128 + 128 := by decide +kernel
theorem low_or (m : Nat) : m % 256 ||| 128 = m % 128 + 128 := by
  have := more_or ⟨m % 256, Nat.mod_lt _ (by omega)⟩
  simp only at this
  rw [this]
  omega

/-! ### reading -/
/-- What the groups say: 0 and the number and how many bytes; or 10: too short; or 11: too long. -/
def tk : List UInt8 → Nat → Nat → Nat × Nat × Nat
  | [], _, _ => (10, 0, 0)
  | c :: l, i, n =>
    if (i = 9 ∧ 1 < c.toNat) ∨ (c.toNat < 128 ∧ c.toNat = 0 ∧ 0 < i) then (11, 0, 0)
    else if c.toNat < 128 then (0, n + c.toNat % 128 * 2 ^ (7 * i), i + 1) else tk l (i + 1) (n + c.toNat % 128 * 2 ^ (7 * i))
theorem tk_nil (i n : Nat) : tk [] i n = (10, 0, 0) := rfl
theorem tk_long {c : UInt8} {l : List UInt8} {i n : Nat} (h : (i = 9 ∧ 1 < c.toNat) ∨ (c.toNat < 128 ∧ c.toNat = 0 ∧ 0 < i)) : tk (c :: l) i n = (11, 0, 0) := by
  rw [tk, if_pos h]
theorem tk_last {c : UInt8} {l : List UInt8} {i n : Nat} (h : ¬ ((i = 9 ∧ 1 < c.toNat) ∨ (c.toNat < 128 ∧ c.toNat = 0 ∧ 0 < i))) (hc : c.toNat < 128) : tk (c :: l) i n = (0, n + c.toNat % 128 * 2 ^ (7 * i), i + 1) := by
  rw [tk, if_neg h, if_pos hc]
theorem tk_more {c : UInt8} {l : List UInt8} {i n : Nat} (h : ¬ ((i = 9 ∧ 1 < c.toNat) ∨ (c.toNat < 128 ∧ c.toNat = 0 ∧ 0 < i))) (hc : ¬ c.toNat < 128) : tk (c :: l) i n = tk l (i + 1) (n + c.toNat % 128 * 2 ^ (7 * i)) := by
  rw [tk, if_neg h, if_neg hc]
/-- The first result: the number, the place behind, the error. -/
def take (b : List UInt8) (at_ : Int) : Nat × Int × Nat :=
  if at_ < 0 ∨ (b.length : Int) ≤ at_ then (0, at_, 10)
  else if (tk (b.drop at_.toNat) 0 0).1 = 0 then ((tk (b.drop at_.toNat) 0 0).2.1, at_ + (tk (b.drop at_.toNat) 0 0).2.2, 0) else (0, at_, (tk (b.drop at_.toNat) 0 0).1)

/-- How a number's groups come to it: 'Grp c l n': the bytes l, of which only the last one is below 128, say n. -/
def val : List UInt8 → Nat
  | [] => 0
  | c :: l => c.toNat % 128 + 128 * val l
theorem val_append : ∀ (l m : List UInt8), val (l ++ m) = val l + 2 ^ (7 * l.length) * val m
  | [], m => by simp [val]
  | c :: l, m => by
    simp only [List.cons_append, val, List.length_cons]
    rw [val_append l m, show 7 * (l.length + 1) = 7 + 7 * l.length by omega, Nat.pow_add, Nat.mul_add]
    simp only [show (2 : Nat) ^ 7 = 128 from rfl]
    rw [Nat.mul_assoc]
    omega
theorem val_lt : ∀ l : List UInt8, val l < 2 ^ (7 * l.length)
  | [] => by simp [val]
  | c :: l => by
    have h := val_lt l
    simp only [val, List.length_cons]
    rw [show 7 * (l.length + 1) = 7 + 7 * l.length by omega, Nat.pow_add]
    simp only [show (2 : Nat) ^ 7 = 128 from rfl]
    omega
/-- All but the last are 128 or more, the last one is below. -/
def Grp (l : List UInt8) (c : UInt8) : Prop := (∀ x ∈ l, 128 ≤ x.toNat) ∧ c.toNat < 128
/-- Groups that end in a 0 behind others are not written so: they are longer than the number's own. -/
theorem put_val : ∀ (l : List UInt8) (c : UInt8), Grp l c → val (l ++ [c]) < 18446744073709551616 → (c.toNat ≠ 0 ∨ l = []) → put (val (l ++ [c])) = l ++ [c]
  | [], c, h, _, _ => by
    have e : val ([] ++ [c]) = c.toNat := by simp [val]; exact h.2
    rw [e, put_small h.2]
    simp
  | x :: l, c, h, hv, hc => by
    have hx := h.1 x List.mem_cons_self
    have hx2 := x.toNat_lt
    have hc' : c.toNat ≠ 0 := by
      rcases hc with h1 | h1
      · exact h1
      · cases h1
    have hg : Grp l c := ⟨fun y hy => h.1 y (List.mem_cons_of_mem _ hy), h.2⟩
    have e : val (x :: l ++ [c]) = x.toNat % 128 + 128 * val (l ++ [c]) := rfl
    have hpos : 1 ≤ val (l ++ [c]) := by
      rw [val_append]
      have h1 : val [c] = c.toNat := by simp [val]; exact h.2
      rw [h1]
      have h2 : 1 ≤ 2 ^ (7 * l.length) := Nat.one_le_two_pow
      have h3 : 1 * 1 ≤ 2 ^ (7 * l.length) * c.toNat := Nat.mul_le_mul h2 (by omega)
      omega
    rw [e] at hv ⊢
    rw [put_big (by omega) hv]
    have e1 : (x.toNat % 128 + 128 * val (l ++ [c])) % 128 + 128 = x.toNat := by omega
    have e2 : (x.toNat % 128 + 128 * val (l ++ [c])) / 128 = val (l ++ [c]) := by omega
    rw [e1, e2, put_val l c hg (by omega) (.inl hc')]
    simp
theorem put_short : ∀ (l : List UInt8) (c : UInt8), (∀ x ∈ l, 128 ≤ x.toNat) → c.toNat = 0 → l ≠ [] → val (l ++ [c]) < 18446744073709551616 → (put (val (l ++ [c]))).length ≤ l.length
  | [], _, _, _, h, _ => absurd rfl h
  | x :: l, c, h, hc, _, hv => by
    have e : val (x :: l ++ [c]) = x.toNat % 128 + 128 * val (l ++ [c]) := rfl
    rw [e] at hv ⊢
    by_cases hl : l = []
    · subst hl
      have : val ([] ++ [c]) = 0 := by simp [val, hc]
      rw [this, put_small (by omega)]
      simp
    · have ih := put_short l c (fun y hy => h y (List.mem_cons_of_mem _ hy)) hc hl (by omega)
      by_cases hb : x.toNat % 128 + 128 * val (l ++ [c]) < 128
      · rw [put_small hb]; simp
      · rw [put_big (by omega) hv]
        have e2 : (x.toNat % 128 + 128 * val (l ++ [c])) / 128 = val (l ++ [c]) := by omega
        rw [e2]
        simp only [List.length_cons]
        omega

/-- Reading what was put, whatever stands behind. -/
theorem tk_put : ∀ (f n i acc : Nat) (rest : List UInt8), n < 2 ^ (7 * (f + 1)) → n * 2 ^ (7 * i) < 18446744073709551616 → (0 < i → 0 < n) → i + f ≤ 9 →
    tk (putF (f + 1) n ++ rest) i acc = (0, acc + n * 2 ^ (7 * i), i + (putF (f + 1) n).length)
  | f, n, i, acc, rest, hn, hb, hi, hf => by
    have hbig : i = 9 → n ≤ 1 := by
      intro h; subst h
      have e : (2 : Nat) ^ (7 * 9) = 9223372036854775808 := by decide
      rw [e] at hb
      omega
    unfold putF
    by_cases h : n < 128
    · rw [if_pos h]
      have e : (UInt8.ofNat n).toNat = n := by rw [UInt8.toNat_ofNat']; omega
      simp only [List.cons_append, List.nil_append]
      rw [tk_last (by rw [e]; omega) (by rw [e]; exact h), e, Nat.mod_eq_of_lt h]
      simp
    · rw [if_neg h]
      have e : (UInt8.ofNat (n % 128 + 128)).toNat = n % 128 + 128 := by rw [UInt8.toNat_ofNat']; omega
      cases f with
      | zero => simp at hn; omega
      | succ f =>
        simp only [List.cons_append]
        have hi9 : i ≠ 9 := by omega
        rw [tk_more (by rw [e]; omega) (by rw [e]; omega), e]
        have hp : 2 ^ (7 * (i + 1)) = 2 ^ (7 * i) * 128 := by rw [show 7 * (i + 1) = 7 * i + 7 by omega, Nat.pow_add]
        have e3 : n / 128 * 2 ^ (7 * (i + 1)) + n % 128 * 2 ^ (7 * i) = n * 2 ^ (7 * i) := by
          rw [hp, Nat.mul_comm (2 ^ (7 * i)) 128, ← Nat.mul_assoc, ← Nat.add_mul]
          congr 1
          omega
        rw [tk_put f (n / 128) (i + 1) _ rest (by
          rw [Nat.div_lt_iff_lt_mul (by omega)]
          have e4 : 2 ^ (7 * (f + 1 + 1)) = 2 ^ (7 * (f + 1)) * 128 := by rw [show 7 * (f + 1 + 1) = 7 * (f + 1) + 7 by omega, Nat.pow_add]
          omega) (by omega) (by omega) (by omega)]
        have e5 : (n % 128 + 128) % 128 = n % 128 := by omega
        rw [e5]
        simp only [List.length_cons, Prod.mk.injEq, true_and]
        omega
theorem tk_put0 (n : Nat) (hn : n < 18446744073709551616) (rest : List UInt8) : tk (put n ++ rest) 0 0 = (0, n, (put n).length) := by
  have := tk_put 9 n 0 0 rest (by omega) (by omega) (by omega) (by omega)
  unfold put
  rw [this]
  simp
end Go.Proofs.Ytmobgamlednlhaa.Var
