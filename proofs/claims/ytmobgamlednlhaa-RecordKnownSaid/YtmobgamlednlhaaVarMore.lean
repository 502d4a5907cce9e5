/-
  The program's reading: texts and rows of numbers.
-/
import Derived.Test.YtmobgamlednlhaaVarTake
namespace Go.Proofs.Ytmobgamlednlhaa
open Go.RowKit
namespace Var
theorem tk_facts : ∀ (l : List UInt8) (i n : Nat), i ≤ 9 → n < 2 ^ (7 * i) →
    ((tk l i n).1 = 0 → i < (tk l i n).2.2 ∧ (tk l i n).2.2 ≤ i + l.length ∧ (tk l i n).2.1 < 18446744073709551616) ∧ ((tk l i n).1 ≠ 0 → (tk l i n).1 = 10 ∨ (tk l i n).1 = 11)
  | [], i, n, _, _ => by simp [tk_nil]
  | c :: l, i, n, hi, hn => by
    have hcl := c.toNat_lt
    by_cases h : (i = 9 ∧ 1 < c.toNat) ∨ (c.toNat < 128 ∧ c.toNat = 0 ∧ 0 < i)
    · rw [tk_long h]; simp
    · have h2 : n + c.toNat % 128 * 2 ^ (7 * i) < 2 ^ (7 * (i + 1)) := (or_digit hn hcl hi (by omega)).2
      by_cases hc : c.toNat < 128
      · rw [tk_last h hc]
        refine ⟨fun _ => ⟨by simp, by simp, ?_⟩, fun h => absurd rfl h⟩
        simp only
        by_cases h9 : i = 9
        · subst h9
          have h3 : c.toNat % 128 ≤ 1 := by omega
          have h4 : c.toNat % 128 * 2 ^ (7 * 9) ≤ 1 * 2 ^ (7 * 9) := Nat.mul_le_mul_right _ h3
          omega
        · have h3 : 2 ^ (7 * (i + 1)) ≤ 2 ^ (7 * 9) := Nat.pow_le_pow_right (by omega) (by omega)
          omega
      · rw [tk_more h hc]
        have h9 : i ≠ 9 := by omega
        have := tk_facts l (i + 1) _ (by omega) h2
        rw [List.length_cons]
        exact ⟨fun h => by obtain ⟨h5, h6, h7⟩ := this.1 h; exact ⟨by omega, by omega, h7⟩, this.2⟩
/-- What comes of a reading. -/
theorem take_cases (b : List UInt8) (p : Int) : (∃ v nx q : Nat, take b p = (v, (nx : Int), 0) ∧ p = q ∧ q < nx ∧ nx ≤ b.length ∧ v < 18446744073709551616) ∨ take b p = (0, p, 10) ∨ take b p = (0, p, 11) := by
  unfold take
  by_cases h : p < 0 ∨ (b.length : Int) ≤ p
  · rw [if_pos h]; exact .inr (.inl rfl)
  · rw [if_neg h]
    have hf := tk_facts (b.drop p.toNat) 0 0 (by omega) (by decide)
    by_cases h0 : (tk (b.drop p.toNat) 0 0).1 = 0
    · rw [if_pos h0]
      obtain ⟨h1, h2, h3⟩ := hf.1 h0
      rw [List.length_drop] at h2
      exact .inl ⟨_, p.toNat + (tk (b.drop p.toNat) 0 0).2.2, p.toNat, by congr 2; push_cast; omega, by omega, by omega, by omega, h3⟩
    · rw [if_neg h0]
      rcases hf.2 h0 with h | h <;> rw [h]
      · exact .inr (.inl rfl)
      · exact .inr (.inr rfl)
/-- A text, read. -/
def ttext (b : List UInt8) (p : Int) : List UInt8 × Int × Nat :=
  if (take b p).2.2 ≠ 0 then ([], p, (take b p).2.2)
  else if b.length - (take b p).2.1.toNat < (take b p).1 then ([], p, 10)
  else ((b.take ((take b p).2.1.toNat + (take b p).1)).drop (take b p).2.1.toNat, (take b p).2.1 + (take b p).1, 0)
/-- Numbers, read: the numbers, the place behind, the error. -/
def tall (b : List UInt8) : Nat → Int → List Nat → List Nat × Int × Nat
  | 0, p, acc => (acc, p, 0)
  | k + 1, p, acc => if (take b p).2.2 = 0 then tall b k (take b p).2.1 (acc ++ [(take b p).1]) else ([], 0, (take b p).2.2)
end Var
set_option maxHeartbeats 1000000 in
set_option maxRecDepth 100000 in
theorem takeText_any (w : World) (A : Option Addr) (n cap : Nat) (b : List UInt8) (B : Nat) (h : Rd w B 1 A n (byts b)) (hc : n ≤ cap) (hm : n ≤ 100000000) (p : Int) (hp1 : -9223372036854775808 ≤ p) (hp2 : p ≤ 9223372036854775807) :
    Calls Try.prog 80 #[.slice A n cap, .int .i64 p] w fun e w' => e = .returned (.tuple #[.string ⟨(Var.ttext b p).1.toArray⟩, .int .i64 (Var.ttext b p).2.1, .int .i64 ((Var.ttext b p).2.2 : Nat)]) ∧ w = w' := by
  have hl := h.blen
  have H := Lib.hid h
  clear h
  rcases Var.take_cases b p with ⟨v, nx, q, ht, rfl, hq, hnx, hv⟩ | ht | ht
  · by_cases hfit : n - nx < v
    · have HE : Hid (Var.ttext b q = ([], (q : Int), 10)) := by
        show _ = _
        unfold Var.ttext
        rw [ht, if_neg (by simp), if_pos (by simp only [Int.toNat_natCast]; omega)]
      have HT := Lib.hid ht
      have hd : decide ((n : Int) - (nx : Int) < (v : Int)) = true := by simp; omega
      have hnn : nx ≤ n := by omega
      clear ht hl
      go_enter Try.func80, Try.ntmps80
      go_wp2_with fail
      refine (take_any w A n cap b B H.out hc hm q hp1 hp2).mono ?_
      rintro e w1 ⟨rfl, rfl⟩
      rw [HT.out]
      go_wp2_with fail
      go_ret3
      refine ⟨?_, rfl⟩
      rw [HE.out]
      rfl
    · have HE : Hid (Var.ttext b q = ((b.take (nx + v)).drop nx, ((nx : Nat) : Int) + (v : Nat), 0)) := by
        show _ = _
        unfold Var.ttext
        rw [ht, if_neg (by simp), if_neg (by simp only [Int.toNat_natCast]; omega)]
        rfl
      have HT := Lib.hid ht
      have hd : decide ((n : Int) - (nx : Int) < (v : Int)) = false := by simp; omega
      have hnn : nx ≤ n := by omega
      have hs : nx + v ≤ n := by omega
      have hv9 : v ≤ 100000000 := by omega
      have h2 := H.out.mid (i := nx) (j := nx + v) (cap := cap) (by omega) (by omega) hc
      have hcv := run_string_of (P := Try.prog) Try.underlying27 Try.underlying5 Try.underlying9 h2 (cap - nx)
      rw [show nx + v - nx = v by omega] at hcv
      clear ht hl h2
      go_enter Try.func80, Try.ntmps80
      go_wp2_with fail
      refine (take_any w A n cap b B H.out hc hm q hp1 hp2).mono ?_
      rintro e w1 ⟨rfl, rfl⟩
      rw [HT.out]
      go_wp2_with fail
      all_goals
        go_ret3
        refine ⟨?_, rfl⟩
        rw [HE.out]
        rfl
  · have HE : Hid (Var.ttext b p = ([], p, 10)) := by
      show _ = _
      unfold Var.ttext
      rw [ht]
      rfl
    have HT := Lib.hid ht
    clear ht hl
    go_enter Try.func80, Try.ntmps80
    go_wp2_with fail
    refine (take_any w A n cap b B H.out hc hm p hp1 hp2).mono ?_
    rintro e w1 ⟨rfl, rfl⟩
    rw [HT.out]
    go_wp2_with fail
    go_ret3
    refine ⟨?_, rfl⟩
    rw [HE.out]
    rfl
  · have HE : Hid (Var.ttext b p = ([], p, 11)) := by
      show _ = _
      unfold Var.ttext
      rw [ht]
      rfl
    have HT := Lib.hid ht
    clear ht hl
    go_enter Try.func80, Try.ntmps80
    go_wp2_with fail
    refine (take_any w A n cap b B H.out hc hm p hp1 hp2).mono ?_
    rintro e w1 ⟨rfl, rfl⟩
    rw [HT.out]
    go_wp2_with fail
    go_ret3
    refine ⟨?_, rfl⟩
    rw [HE.out]
    rfl
/-- Numbers, as cells. -/
def natv (l : List Nat) : List Value := l.map fun x => .int .u64 ((x : Nat) : Int)
theorem natv_append (a b : List Nat) : natv (a ++ b) = natv a ++ natv b := List.map_append
theorem numsV : ElemOK Try.prog 50 22 1 8 := ElemOK.mk_ (z := .int .u64 0) Try.underlying50 (by kernel_rfl) rfl (by omega)
/-- TakeAll's answer. -/
def Var.rall (b : List UInt8) (many : Nat) (p : Int) : List Nat × Int × Nat :=
  if (Var.tall b many p []).2.2 = 0 then Var.tall b many p [] else ([], p, (Var.tall b many p []).2.2)
end Go.Proofs.Ytmobgamlednlhaa
