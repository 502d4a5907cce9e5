/-
  Records: the document's Right says the same. Plain Lean, no function of the program in sight.
-/
import Derived.Test.YtmobgamlednlhaaRecStruct
namespace Go.Proofs.Ytmobgamlednlhaa
open Go.RowKit
namespace Rc
/-- Whose a record is. -/
def whose (r : Rc) : Rc := ⟨r.k, r.proc, r.inc, r.seq, 0, 0, 0, 0, 0, 0, ⟨#[]⟩, ⟨#[]⟩⟩
def foldStep (r x : Rc) (c : UInt8) : Rc := x.with_ c.toNat (r.num c.toNat) (r.txt c.toNat)
/-- What its letters tell of. -/
def told (r : Rc) (l : List UInt8) : Rc := l.foldl r.foldStep r.whose
theorem told_snoc (r : Rc) (l : List UInt8) (c : UInt8) : r.told (l ++ [c]) = r.foldStep (r.told l) c := by unfold told; rw [List.foldl_append]; rfl
def badText (r : Rc) (c : UInt8) : Bool := isText c.toNat && (decide ((r.txt c.toNat).size < 1) || decide (64 < (r.txt c.toNat).size))
def rright (r : Rc) : Bool := decide (1 ≤ r.k ∧ r.k ≤ 11) && decide (r.size ≤ 65535) && decide (r.crc ≤ 4294967295) && !(letters r.k).any r.badText && (r.told (letters r.k)).eqB r
theorem letters_len (k : Nat) : (letters k).length ≤ 4 := by
  rcases Nat.lt_or_ge k 12 with h | h
  · have hc : k = 0 ∨ k = 1 ∨ k = 2 ∨ k = 3 ∨ k = 4 ∨ k = 5 ∨ k = 6 ∨ k = 7 ∨ k = 8 ∨ k = 9 ∨ k = 10 ∨ k = 11 := by omega
    rcases hc with rfl | rfl | rfl | rfl | rfl | rfl | rfl | rfl | rfl | rfl | rfl | rfl <;> decide
  · unfold letters
    rw [List.getD_eq_getElem?_getD, List.getElem?_eq_none (by simpa using h)]
    simp
theorem empty_iff (s : ByteArray) : s = ⟨#[]⟩ ↔ s.size = 0 := by
  constructor
  · rintro rfl; rfl
  · intro h
    obtain ⟨d⟩ := s
    congr 1
    exact Array.eq_empty_of_size_eq_zero h
theorem right1 (n0 n1 n2 n3 n4 n5 n6 n7 n8 : Nat) (s0 s1 : ByteArray) : (⟨1, n0, n1, n2, n3, n4, n5, n6, n7, n8, s0, s1⟩ : Rc).right = true ↔ n7 ≤ 65535 ∧ n8 ≤ 4294967295 ∧ n5 = 0 ∧ n6 = 0 ∧ n7 = 0 ∧ n8 = 0 ∧ s0.size = 0 ∧ s1.size = 0 := by
  have ht : (⟨1, n0, n1, n2, n3, n4, n5, n6, n7, n8, s0, s1⟩ : Rc).takeAll (places 1) = ((⟨1, 0, 0, 0, 0, 0, n5, n6, n7, n8, s0, s1⟩ : Rc), false) := rfl
  unfold right
  simp only [ht, Bool.and_eq_true, decide_eq_true_eq, Bool.not_eq_true', eqB_iff, zero, Rc.mk.injEq, empty_iff]
  constructor
  · intro h; omega
  · intro h; and_intros <;> first | exact True.intro | rfl | omega
theorem rright1 (n0 n1 n2 n3 n4 n5 n6 n7 n8 : Nat) (s0 s1 : ByteArray) : (⟨1, n0, n1, n2, n3, n4, n5, n6, n7, n8, s0, s1⟩ : Rc).rright = true ↔ n7 ≤ 65535 ∧ n8 ≤ 4294967295 ∧ n5 = 0 ∧ n6 = 0 ∧ n7 = 0 ∧ n8 = 0 ∧ s0.size = 0 ∧ s1.size = 0 := by
  have ht : (⟨1, n0, n1, n2, n3, n4, n5, n6, n7, n8, s0, s1⟩ : Rc).told (letters 1) = (⟨1, n0, n1, n2, n3, n4, 0, 0, 0, 0, ⟨#[]⟩, ⟨#[]⟩⟩ : Rc) := rfl
  have hb : (letters 1).any (⟨1, n0, n1, n2, n3, n4, n5, n6, n7, n8, s0, s1⟩ : Rc).badText = false := rfl
  unfold rright
  simp only [ht, hb, Bool.and_eq_true, decide_eq_true_eq, Bool.not_eq_true', eqB_iff, Rc.mk.injEq, eq_comm (a := (⟨#[]⟩ : ByteArray)), empty_iff]
  constructor
  · intro h; omega
  · intro h; and_intros <;> first | exact True.intro | rfl | omega
theorem right2 (n0 n1 n2 n3 n4 n5 n6 n7 n8 : Nat) (s0 s1 : ByteArray) : (⟨2, n0, n1, n2, n3, n4, n5, n6, n7, n8, s0, s1⟩ : Rc).right = true ↔ n7 ≤ 65535 ∧ n8 ≤ 4294967295 ∧ n5 = 0 ∧ n6 = 0 ∧ n7 = 0 ∧ n8 = 0 ∧ s0.size = 0 ∧ s1.size = 0 := by
  have ht : (⟨2, n0, n1, n2, n3, n4, n5, n6, n7, n8, s0, s1⟩ : Rc).takeAll (places 2) = ((⟨2, 0, 0, 0, 0, 0, n5, n6, n7, n8, s0, s1⟩ : Rc), false) := rfl
  unfold right
  simp only [ht, Bool.and_eq_true, decide_eq_true_eq, Bool.not_eq_true', eqB_iff, zero, Rc.mk.injEq, empty_iff]
  constructor
  · intro h; omega
  · intro h; and_intros <;> first | exact True.intro | rfl | omega
theorem rright2 (n0 n1 n2 n3 n4 n5 n6 n7 n8 : Nat) (s0 s1 : ByteArray) : (⟨2, n0, n1, n2, n3, n4, n5, n6, n7, n8, s0, s1⟩ : Rc).rright = true ↔ n7 ≤ 65535 ∧ n8 ≤ 4294967295 ∧ n5 = 0 ∧ n6 = 0 ∧ n7 = 0 ∧ n8 = 0 ∧ s0.size = 0 ∧ s1.size = 0 := by
  have ht : (⟨2, n0, n1, n2, n3, n4, n5, n6, n7, n8, s0, s1⟩ : Rc).told (letters 2) = (⟨2, n0, n1, n2, n3, n4, 0, 0, 0, 0, ⟨#[]⟩, ⟨#[]⟩⟩ : Rc) := rfl
  have hb : (letters 2).any (⟨2, n0, n1, n2, n3, n4, n5, n6, n7, n8, s0, s1⟩ : Rc).badText = false := rfl
  unfold rright
  simp only [ht, hb, Bool.and_eq_true, decide_eq_true_eq, Bool.not_eq_true', eqB_iff, Rc.mk.injEq, eq_comm (a := (⟨#[]⟩ : ByteArray)), empty_iff]
  constructor
  · intro h; omega
  · intro h; and_intros <;> first | exact True.intro | rfl | omega
theorem right3 (n0 n1 n2 n3 n4 n5 n6 n7 n8 : Nat) (s0 s1 : ByteArray) : (⟨3, n0, n1, n2, n3, n4, n5, n6, n7, n8, s0, s1⟩ : Rc).right = true ↔ n7 ≤ 65535 ∧ n8 ≤ 4294967295 ∧ n4 = 0 ∧ n5 = 0 ∧ n6 = 0 ∧ n7 = 0 ∧ n8 = 0 ∧ s0.size = 0 ∧ s1.size = 0 := by
  have ht : (⟨3, n0, n1, n2, n3, n4, n5, n6, n7, n8, s0, s1⟩ : Rc).takeAll (places 3) = ((⟨3, 0, 0, 0, 0, n4, n5, n6, n7, n8, s0, s1⟩ : Rc), false) := rfl
  unfold right
  simp only [ht, Bool.and_eq_true, decide_eq_true_eq, Bool.not_eq_true', eqB_iff, zero, Rc.mk.injEq, empty_iff]
  constructor
  · intro h; omega
  · intro h; and_intros <;> first | exact True.intro | rfl | omega
theorem rright3 (n0 n1 n2 n3 n4 n5 n6 n7 n8 : Nat) (s0 s1 : ByteArray) : (⟨3, n0, n1, n2, n3, n4, n5, n6, n7, n8, s0, s1⟩ : Rc).rright = true ↔ n7 ≤ 65535 ∧ n8 ≤ 4294967295 ∧ n4 = 0 ∧ n5 = 0 ∧ n6 = 0 ∧ n7 = 0 ∧ n8 = 0 ∧ s0.size = 0 ∧ s1.size = 0 := by
  have ht : (⟨3, n0, n1, n2, n3, n4, n5, n6, n7, n8, s0, s1⟩ : Rc).told (letters 3) = (⟨3, n0, n1, n2, n3, 0, 0, 0, 0, 0, ⟨#[]⟩, ⟨#[]⟩⟩ : Rc) := rfl
  have hb : (letters 3).any (⟨3, n0, n1, n2, n3, n4, n5, n6, n7, n8, s0, s1⟩ : Rc).badText = false := rfl
  unfold rright
  simp only [ht, hb, Bool.and_eq_true, decide_eq_true_eq, Bool.not_eq_true', eqB_iff, Rc.mk.injEq, eq_comm (a := (⟨#[]⟩ : ByteArray)), empty_iff]
  constructor
  · intro h; omega
  · intro h; and_intros <;> first | exact True.intro | rfl | omega
theorem right4 (n0 n1 n2 n3 n4 n5 n6 n7 n8 : Nat) (s0 s1 : ByteArray) : (⟨4, n0, n1, n2, n3, n4, n5, n6, n7, n8, s0, s1⟩ : Rc).right = true ↔ n7 ≤ 65535 ∧ n8 ≤ 4294967295 ∧ n4 = 0 ∧ n6 = 0 ∧ s0.size = 0 ∧ s1.size = 0 := by
  have ht : (⟨4, n0, n1, n2, n3, n4, n5, n6, n7, n8, s0, s1⟩ : Rc).takeAll (places 4) = ((⟨4, 0, 0, 0, 0, n4, 0, n6, 0, 0, s0, s1⟩ : Rc), false) := rfl
  unfold right
  simp only [ht, Bool.and_eq_true, decide_eq_true_eq, Bool.not_eq_true', eqB_iff, zero, Rc.mk.injEq, empty_iff]
  constructor
  · intro h; omega
  · intro h; and_intros <;> first | exact True.intro | rfl | omega
theorem rright4 (n0 n1 n2 n3 n4 n5 n6 n7 n8 : Nat) (s0 s1 : ByteArray) : (⟨4, n0, n1, n2, n3, n4, n5, n6, n7, n8, s0, s1⟩ : Rc).rright = true ↔ n7 ≤ 65535 ∧ n8 ≤ 4294967295 ∧ n4 = 0 ∧ n6 = 0 ∧ s0.size = 0 ∧ s1.size = 0 := by
  have ht : (⟨4, n0, n1, n2, n3, n4, n5, n6, n7, n8, s0, s1⟩ : Rc).told (letters 4) = (⟨4, n0, n1, n2, n3, 0, n5, 0, n7, n8, ⟨#[]⟩, ⟨#[]⟩⟩ : Rc) := rfl
  have hb : (letters 4).any (⟨4, n0, n1, n2, n3, n4, n5, n6, n7, n8, s0, s1⟩ : Rc).badText = false := rfl
  unfold rright
  simp only [ht, hb, Bool.and_eq_true, decide_eq_true_eq, Bool.not_eq_true', eqB_iff, Rc.mk.injEq, eq_comm (a := (⟨#[]⟩ : ByteArray)), empty_iff]
  constructor
  · intro h; omega
  · intro h; and_intros <;> first | exact True.intro | rfl | omega
theorem right5 (n0 n1 n2 n3 n4 n5 n6 n7 n8 : Nat) (s0 s1 : ByteArray) : (⟨5, n0, n1, n2, n3, n4, n5, n6, n7, n8, s0, s1⟩ : Rc).right = true ↔ n7 ≤ 65535 ∧ n8 ≤ 4294967295 ∧ n3 = 0 ∧ n6 = 0 ∧ n7 = 0 ∧ n8 = 0 ∧ s0.size = 0 ∧ s1.size = 0 := by
  have ht : (⟨5, n0, n1, n2, n3, n4, n5, n6, n7, n8, s0, s1⟩ : Rc).takeAll (places 5) = ((⟨5, 0, 0, 0, n3, 0, 0, n6, n7, n8, s0, s1⟩ : Rc), false) := rfl
  unfold right
  simp only [ht, Bool.and_eq_true, decide_eq_true_eq, Bool.not_eq_true', eqB_iff, zero, Rc.mk.injEq, empty_iff]
  constructor
  · intro h; omega
  · intro h; and_intros <;> first | exact True.intro | rfl | omega
theorem rright5 (n0 n1 n2 n3 n4 n5 n6 n7 n8 : Nat) (s0 s1 : ByteArray) : (⟨5, n0, n1, n2, n3, n4, n5, n6, n7, n8, s0, s1⟩ : Rc).rright = true ↔ n7 ≤ 65535 ∧ n8 ≤ 4294967295 ∧ n3 = 0 ∧ n6 = 0 ∧ n7 = 0 ∧ n8 = 0 ∧ s0.size = 0 ∧ s1.size = 0 := by
  have ht : (⟨5, n0, n1, n2, n3, n4, n5, n6, n7, n8, s0, s1⟩ : Rc).told (letters 5) = (⟨5, n0, n1, n2, 0, n4, n5, 0, 0, 0, ⟨#[]⟩, ⟨#[]⟩⟩ : Rc) := rfl
  have hb : (letters 5).any (⟨5, n0, n1, n2, n3, n4, n5, n6, n7, n8, s0, s1⟩ : Rc).badText = false := rfl
  unfold rright
  simp only [ht, hb, Bool.and_eq_true, decide_eq_true_eq, Bool.not_eq_true', eqB_iff, Rc.mk.injEq, eq_comm (a := (⟨#[]⟩ : ByteArray)), empty_iff]
  constructor
  · intro h; omega
  · intro h; and_intros <;> first | exact True.intro | rfl | omega
theorem right6 (n0 n1 n2 n3 n4 n5 n6 n7 n8 : Nat) (s0 s1 : ByteArray) : (⟨6, n0, n1, n2, n3, n4, n5, n6, n7, n8, s0, s1⟩ : Rc).right = true ↔ n7 ≤ 65535 ∧ n8 ≤ 4294967295 ∧ n3 = 0 ∧ n4 = 0 ∧ n6 = 0 ∧ n7 = 0 ∧ n8 = 0 ∧ s0.size = 0 ∧ s1.size = 0 := by
  have ht : (⟨6, n0, n1, n2, n3, n4, n5, n6, n7, n8, s0, s1⟩ : Rc).takeAll (places 6) = ((⟨6, 0, 0, 0, n3, n4, 0, n6, n7, n8, s0, s1⟩ : Rc), false) := rfl
  unfold right
  simp only [ht, Bool.and_eq_true, decide_eq_true_eq, Bool.not_eq_true', eqB_iff, zero, Rc.mk.injEq, empty_iff]
  constructor
  · intro h; omega
  · intro h; and_intros <;> first | exact True.intro | rfl | omega
theorem rright6 (n0 n1 n2 n3 n4 n5 n6 n7 n8 : Nat) (s0 s1 : ByteArray) : (⟨6, n0, n1, n2, n3, n4, n5, n6, n7, n8, s0, s1⟩ : Rc).rright = true ↔ n7 ≤ 65535 ∧ n8 ≤ 4294967295 ∧ n3 = 0 ∧ n4 = 0 ∧ n6 = 0 ∧ n7 = 0 ∧ n8 = 0 ∧ s0.size = 0 ∧ s1.size = 0 := by
  have ht : (⟨6, n0, n1, n2, n3, n4, n5, n6, n7, n8, s0, s1⟩ : Rc).told (letters 6) = (⟨6, n0, n1, n2, 0, 0, n5, 0, 0, 0, ⟨#[]⟩, ⟨#[]⟩⟩ : Rc) := rfl
  have hb : (letters 6).any (⟨6, n0, n1, n2, n3, n4, n5, n6, n7, n8, s0, s1⟩ : Rc).badText = false := rfl
  unfold rright
  simp only [ht, hb, Bool.and_eq_true, decide_eq_true_eq, Bool.not_eq_true', eqB_iff, Rc.mk.injEq, eq_comm (a := (⟨#[]⟩ : ByteArray)), empty_iff]
  constructor
  · intro h; omega
  · intro h; and_intros <;> first | exact True.intro | rfl | omega
theorem right7 (n0 n1 n2 n3 n4 n5 n6 n7 n8 : Nat) (s0 s1 : ByteArray) : (⟨7, n0, n1, n2, n3, n4, n5, n6, n7, n8, s0, s1⟩ : Rc).right = true ↔ n7 ≤ 65535 ∧ n8 ≤ 4294967295 ∧ n3 = 0 ∧ n4 = 0 ∧ n5 = 0 ∧ n6 = 0 ∧ n7 = 0 ∧ n8 = 0 ∧ s0.size = 0 ∧ s1.size = 0 := by
  have ht : (⟨7, n0, n1, n2, n3, n4, n5, n6, n7, n8, s0, s1⟩ : Rc).takeAll (places 7) = ((⟨7, 0, 0, 0, n3, n4, n5, n6, n7, n8, s0, s1⟩ : Rc), false) := rfl
  unfold right
  simp only [ht, Bool.and_eq_true, decide_eq_true_eq, Bool.not_eq_true', eqB_iff, zero, Rc.mk.injEq, empty_iff]
  constructor
  · intro h; omega
  · intro h; and_intros <;> first | exact True.intro | rfl | omega
theorem rright7 (n0 n1 n2 n3 n4 n5 n6 n7 n8 : Nat) (s0 s1 : ByteArray) : (⟨7, n0, n1, n2, n3, n4, n5, n6, n7, n8, s0, s1⟩ : Rc).rright = true ↔ n7 ≤ 65535 ∧ n8 ≤ 4294967295 ∧ n3 = 0 ∧ n4 = 0 ∧ n5 = 0 ∧ n6 = 0 ∧ n7 = 0 ∧ n8 = 0 ∧ s0.size = 0 ∧ s1.size = 0 := by
  have ht : (⟨7, n0, n1, n2, n3, n4, n5, n6, n7, n8, s0, s1⟩ : Rc).told (letters 7) = (⟨7, n0, n1, n2, 0, 0, 0, 0, 0, 0, ⟨#[]⟩, ⟨#[]⟩⟩ : Rc) := rfl
  have hb : (letters 7).any (⟨7, n0, n1, n2, n3, n4, n5, n6, n7, n8, s0, s1⟩ : Rc).badText = false := rfl
  unfold rright
  simp only [ht, hb, Bool.and_eq_true, decide_eq_true_eq, Bool.not_eq_true', eqB_iff, Rc.mk.injEq, eq_comm (a := (⟨#[]⟩ : ByteArray)), empty_iff]
  constructor
  · intro h; omega
  · intro h; and_intros <;> first | exact True.intro | rfl | omega
theorem right8 (n0 n1 n2 n3 n4 n5 n6 n7 n8 : Nat) (s0 s1 : ByteArray) : (⟨8, n0, n1, n2, n3, n4, n5, n6, n7, n8, s0, s1⟩ : Rc).right = true ↔ n7 ≤ 65535 ∧ n8 ≤ 4294967295 ∧ n3 = 0 ∧ n4 = 0 ∧ n5 = 0 ∧ n7 = 0 ∧ n8 = 0 ∧ s0.size = 0 ∧ s1.size = 0 := by
  have ht : (⟨8, n0, n1, n2, n3, n4, n5, n6, n7, n8, s0, s1⟩ : Rc).takeAll (places 8) = ((⟨8, 0, 0, 0, n3, n4, n5, 0, n7, n8, s0, s1⟩ : Rc), false) := rfl
  unfold right
  simp only [ht, Bool.and_eq_true, decide_eq_true_eq, Bool.not_eq_true', eqB_iff, zero, Rc.mk.injEq, empty_iff]
  constructor
  · intro h; omega
  · intro h; and_intros <;> first | exact True.intro | rfl | omega
theorem rright8 (n0 n1 n2 n3 n4 n5 n6 n7 n8 : Nat) (s0 s1 : ByteArray) : (⟨8, n0, n1, n2, n3, n4, n5, n6, n7, n8, s0, s1⟩ : Rc).rright = true ↔ n7 ≤ 65535 ∧ n8 ≤ 4294967295 ∧ n3 = 0 ∧ n4 = 0 ∧ n5 = 0 ∧ n7 = 0 ∧ n8 = 0 ∧ s0.size = 0 ∧ s1.size = 0 := by
  have ht : (⟨8, n0, n1, n2, n3, n4, n5, n6, n7, n8, s0, s1⟩ : Rc).told (letters 8) = (⟨8, n0, n1, n2, 0, 0, 0, n6, 0, 0, ⟨#[]⟩, ⟨#[]⟩⟩ : Rc) := rfl
  have hb : (letters 8).any (⟨8, n0, n1, n2, n3, n4, n5, n6, n7, n8, s0, s1⟩ : Rc).badText = false := rfl
  unfold rright
  simp only [ht, hb, Bool.and_eq_true, decide_eq_true_eq, Bool.not_eq_true', eqB_iff, Rc.mk.injEq, eq_comm (a := (⟨#[]⟩ : ByteArray)), empty_iff]
  constructor
  · intro h; omega
  · intro h; and_intros <;> first | exact True.intro | rfl | omega
theorem right9 (n0 n1 n2 n3 n4 n5 n6 n7 n8 : Nat) (s0 s1 : ByteArray) : (⟨9, n0, n1, n2, n3, n4, n5, n6, n7, n8, s0, s1⟩ : Rc).right = true ↔ n7 ≤ 65535 ∧ n8 ≤ 4294967295 ∧ n3 = 0 ∧ n4 = 0 ∧ n5 = 0 ∧ n6 = 0 ∧ n7 = 0 ∧ n8 = 0 ∧ (1 ≤ s0.size ∧ s0.size ≤ 64) ∧ s1.size = 0 := by
  have ht : (⟨9, n0, n1, n2, n3, n4, n5, n6, n7, n8, s0, s1⟩ : Rc).takeAll (places 9) = ((⟨9, 0, 0, 0, n3, n4, n5, n6, n7, n8, ⟨#[]⟩, s1⟩ : Rc), (false || decide (s0.size = 0) || decide (64 < s0.size))) := rfl
  unfold right
  simp only [ht, Bool.and_eq_true, decide_eq_true_eq, Bool.not_eq_true', Bool.or_eq_false_iff, decide_eq_false_iff_not, eqB_iff, zero, Rc.mk.injEq, empty_iff]
  constructor
  · intro h; omega
  · intro h; and_intros <;> first | exact True.intro | rfl | omega
theorem rright9 (n0 n1 n2 n3 n4 n5 n6 n7 n8 : Nat) (s0 s1 : ByteArray) : (⟨9, n0, n1, n2, n3, n4, n5, n6, n7, n8, s0, s1⟩ : Rc).rright = true ↔ n7 ≤ 65535 ∧ n8 ≤ 4294967295 ∧ n3 = 0 ∧ n4 = 0 ∧ n5 = 0 ∧ n6 = 0 ∧ n7 = 0 ∧ n8 = 0 ∧ (1 ≤ s0.size ∧ s0.size ≤ 64) ∧ s1.size = 0 := by
  have ht : (⟨9, n0, n1, n2, n3, n4, n5, n6, n7, n8, s0, s1⟩ : Rc).told (letters 9) = (⟨9, n0, n1, n2, 0, 0, 0, 0, 0, 0, s0, ⟨#[]⟩⟩ : Rc) := rfl
  have hb : (letters 9).any (⟨9, n0, n1, n2, n3, n4, n5, n6, n7, n8, s0, s1⟩ : Rc).badText = ((true && (decide (s0.size < 1) || decide (64 < s0.size))) || false) := rfl
  unfold rright
  simp only [ht, hb, Bool.and_eq_true, decide_eq_true_eq, Bool.not_eq_true', Bool.or_eq_false_iff, Bool.true_and, decide_eq_false_iff_not, eqB_iff, Rc.mk.injEq, eq_comm (a := (⟨#[]⟩ : ByteArray)), empty_iff]
  constructor
  · intro h; omega
  · intro h; and_intros <;> first | exact True.intro | rfl | omega
theorem right10 (n0 n1 n2 n3 n4 n5 n6 n7 n8 : Nat) (s0 s1 : ByteArray) : (⟨10, n0, n1, n2, n3, n4, n5, n6, n7, n8, s0, s1⟩ : Rc).right = true ↔ n7 ≤ 65535 ∧ n8 ≤ 4294967295 ∧ n3 = 0 ∧ n4 = 0 ∧ n5 = 0 ∧ n6 = 0 ∧ n7 = 0 ∧ n8 = 0 ∧ (1 ≤ s0.size ∧ s0.size ≤ 64) ∧ s1.size = 0 := by
  have ht : (⟨10, n0, n1, n2, n3, n4, n5, n6, n7, n8, s0, s1⟩ : Rc).takeAll (places 10) = ((⟨10, 0, 0, 0, n3, n4, n5, n6, n7, n8, ⟨#[]⟩, s1⟩ : Rc), (false || decide (s0.size = 0) || decide (64 < s0.size))) := rfl
  unfold right
  simp only [ht, Bool.and_eq_true, decide_eq_true_eq, Bool.not_eq_true', Bool.or_eq_false_iff, decide_eq_false_iff_not, eqB_iff, zero, Rc.mk.injEq, empty_iff]
  constructor
  · intro h; omega
  · intro h; and_intros <;> first | exact True.intro | rfl | omega
theorem rright10 (n0 n1 n2 n3 n4 n5 n6 n7 n8 : Nat) (s0 s1 : ByteArray) : (⟨10, n0, n1, n2, n3, n4, n5, n6, n7, n8, s0, s1⟩ : Rc).rright = true ↔ n7 ≤ 65535 ∧ n8 ≤ 4294967295 ∧ n3 = 0 ∧ n4 = 0 ∧ n5 = 0 ∧ n6 = 0 ∧ n7 = 0 ∧ n8 = 0 ∧ (1 ≤ s0.size ∧ s0.size ≤ 64) ∧ s1.size = 0 := by
  have ht : (⟨10, n0, n1, n2, n3, n4, n5, n6, n7, n8, s0, s1⟩ : Rc).told (letters 10) = (⟨10, n0, n1, n2, 0, 0, 0, 0, 0, 0, s0, ⟨#[]⟩⟩ : Rc) := rfl
  have hb : (letters 10).any (⟨10, n0, n1, n2, n3, n4, n5, n6, n7, n8, s0, s1⟩ : Rc).badText = ((true && (decide (s0.size < 1) || decide (64 < s0.size))) || false) := rfl
  unfold rright
  simp only [ht, hb, Bool.and_eq_true, decide_eq_true_eq, Bool.not_eq_true', Bool.or_eq_false_iff, Bool.true_and, decide_eq_false_iff_not, eqB_iff, Rc.mk.injEq, eq_comm (a := (⟨#[]⟩ : ByteArray)), empty_iff]
  constructor
  · intro h; omega
  · intro h; and_intros <;> first | exact True.intro | rfl | omega
theorem right11 (n0 n1 n2 n3 n4 n5 n6 n7 n8 : Nat) (s0 s1 : ByteArray) : (⟨11, n0, n1, n2, n3, n4, n5, n6, n7, n8, s0, s1⟩ : Rc).right = true ↔ n7 ≤ 65535 ∧ n8 ≤ 4294967295 ∧ n3 = 0 ∧ n4 = 0 ∧ n5 = 0 ∧ n6 = 0 ∧ n7 = 0 ∧ n8 = 0 ∧ (1 ≤ s0.size ∧ s0.size ≤ 64) ∧ (1 ≤ s1.size ∧ s1.size ≤ 64) := by
  have ht : (⟨11, n0, n1, n2, n3, n4, n5, n6, n7, n8, s0, s1⟩ : Rc).takeAll (places 11) = ((⟨11, 0, 0, 0, n3, n4, n5, n6, n7, n8, ⟨#[]⟩, ⟨#[]⟩⟩ : Rc), ((false || decide (s0.size = 0) || decide (64 < s0.size)) || decide (s1.size = 0) || decide (64 < s1.size))) := rfl
  unfold right
  simp only [ht, Bool.and_eq_true, decide_eq_true_eq, Bool.not_eq_true', Bool.or_eq_false_iff, decide_eq_false_iff_not, eqB_iff, zero, Rc.mk.injEq]
  constructor
  · intro h; omega
  · intro h; and_intros <;> first | exact True.intro | rfl | omega
theorem rright11 (n0 n1 n2 n3 n4 n5 n6 n7 n8 : Nat) (s0 s1 : ByteArray) : (⟨11, n0, n1, n2, n3, n4, n5, n6, n7, n8, s0, s1⟩ : Rc).rright = true ↔ n7 ≤ 65535 ∧ n8 ≤ 4294967295 ∧ n3 = 0 ∧ n4 = 0 ∧ n5 = 0 ∧ n6 = 0 ∧ n7 = 0 ∧ n8 = 0 ∧ (1 ≤ s0.size ∧ s0.size ≤ 64) ∧ (1 ≤ s1.size ∧ s1.size ≤ 64) := by
  have ht : (⟨11, n0, n1, n2, n3, n4, n5, n6, n7, n8, s0, s1⟩ : Rc).told (letters 11) = (⟨11, n0, n1, n2, 0, 0, 0, 0, 0, 0, s0, s1⟩ : Rc) := rfl
  have hb : (letters 11).any (⟨11, n0, n1, n2, n3, n4, n5, n6, n7, n8, s0, s1⟩ : Rc).badText = ((true && (decide (s0.size < 1) || decide (64 < s0.size))) || ((true && (decide (s1.size < 1) || decide (64 < s1.size))) || false)) := rfl
  unfold rright
  simp only [ht, hb, Bool.and_eq_true, decide_eq_true_eq, Bool.not_eq_true', Bool.or_eq_false_iff, Bool.true_and, decide_eq_false_iff_not, eqB_iff, Rc.mk.injEq]
  constructor
  · intro h; omega
  · intro h; and_intros <;> first | exact True.intro | rfl | omega
theorem right_rright (r : Rc) : r.right = r.rright := by
  by_cases hk : 1 ≤ r.k ∧ r.k ≤ 11
  · obtain ⟨k, n0, n1, n2, n3, n4, n5, n6, n7, n8, s0, s1⟩ := r
    obtain ⟨h1, h2⟩ := hk
    rcases twelve h1 h2 with h | h | h | h | h | h | h | h | h | h | h
    all_goals (simp only at h; subst h)
    · rw [Bool.eq_iff_iff, right1, rright1]
    · rw [Bool.eq_iff_iff, right2, rright2]
    · rw [Bool.eq_iff_iff, right3, rright3]
    · rw [Bool.eq_iff_iff, right4, rright4]
    · rw [Bool.eq_iff_iff, right5, rright5]
    · rw [Bool.eq_iff_iff, right6, rright6]
    · rw [Bool.eq_iff_iff, right7, rright7]
    · rw [Bool.eq_iff_iff, right8, rright8]
    · rw [Bool.eq_iff_iff, right9, rright9]
    · rw [Bool.eq_iff_iff, right10, rright10]
    · rw [Bool.eq_iff_iff, right11, rright11]
  · unfold right rright
    rw [decide_eq_false hk]
    rfl
theorem right_small {r : Rc} (h : r.right = true) : ∀ i, (r.tat i).size ≤ 64 := by
  have hk : 1 ≤ r.k ∧ r.k ≤ 11 := by
    unfold right at h
    simp only [Bool.and_eq_true, decide_eq_true_eq] at h
    exact h.1.1.1.1
  obtain ⟨k, n0, n1, n2, n3, n4, n5, n6, n7, n8, s0, s1⟩ := r
  obtain ⟨h1, h2⟩ := hk
  have hs : s0.size ≤ 64 ∧ s1.size ≤ 64 := by
    rcases twelve h1 h2 with e | e | e | e | e | e | e | e | e | e | e
    all_goals (simp only at e; subst e)
    · have h3 := (right1 n0 n1 n2 n3 n4 n5 n6 n7 n8 s0 s1).1 h
      omega
    · have h3 := (right2 n0 n1 n2 n3 n4 n5 n6 n7 n8 s0 s1).1 h
      omega
    · have h3 := (right3 n0 n1 n2 n3 n4 n5 n6 n7 n8 s0 s1).1 h
      omega
    · have h3 := (right4 n0 n1 n2 n3 n4 n5 n6 n7 n8 s0 s1).1 h
      omega
    · have h3 := (right5 n0 n1 n2 n3 n4 n5 n6 n7 n8 s0 s1).1 h
      omega
    · have h3 := (right6 n0 n1 n2 n3 n4 n5 n6 n7 n8 s0 s1).1 h
      omega
    · have h3 := (right7 n0 n1 n2 n3 n4 n5 n6 n7 n8 s0 s1).1 h
      omega
    · have h3 := (right8 n0 n1 n2 n3 n4 n5 n6 n7 n8 s0 s1).1 h
      omega
    · have h3 := (right9 n0 n1 n2 n3 n4 n5 n6 n7 n8 s0 s1).1 h
      omega
    · have h3 := (right10 n0 n1 n2 n3 n4 n5 n6 n7 n8 s0 s1).1 h
      omega
    · have h3 := (right11 n0 n1 n2 n3 n4 n5 n6 n7 n8 s0 s1).1 h
      omega
  intro i
  unfold tat
  split
  · exact hs.1
  · exact hs.2
end Rc
end Go.Proofs.Ytmobgamlednlhaa
