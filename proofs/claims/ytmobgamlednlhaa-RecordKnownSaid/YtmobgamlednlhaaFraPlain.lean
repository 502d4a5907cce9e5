/-
  Frames: how they are written, and what is read. No function of the program in sight.
-/
import Derived.Test.YtmobgamlednlhaaVarBackLaw
import Derived.Test.YtmobgamlednlhaaCrcPlain
namespace Go.Proofs.Ytmobgamlednlhaa
open Go.RowKit
namespace Fra
/-- The sum, as four bytes. -/
def sum4 (n : Nat) : List UInt8 := [UInt8.ofNat (n % 256), UInt8.ofNat (n / 256 % 256), UInt8.ofNat (n / 65536 % 256), UInt8.ofNat (n / 16777216 % 256)]
theorem sum4_length (n : Nat) : (sum4 n).length = 4 := rfl
/-- What stands ahead of the body. -/
def head (k : UInt8) (b : List UInt8) : List UInt8 := k :: Var.put b.length
/-- All but the sum. -/
def up (k : UInt8) (b : List UInt8) : List UInt8 := head k b ++ b
def bytes (k : UInt8) (b : List UInt8) : List UInt8 := up k b ++ sum4 (Crc.update 0 (up k b))
theorem head_length (k : UInt8) (b : List UInt8) : (head k b).length = 1 + (Var.put b.length).length := by unfold head; rw [List.length_cons]; omega
theorem head_le (k : UInt8) (b : List UInt8) : 2 ≤ (head k b).length ∧ (head k b).length ≤ 11 := by
  have := Var.put_length b.length
  rw [head_length]; omega
theorem up_length (k : UInt8) (b : List UInt8) : (up k b).length = (head k b).length + b.length := by unfold up; rw [List.length_append]
theorem bytes_length (k : UInt8) (b : List UInt8) : (bytes k b).length = (head k b).length + b.length + 4 := by unfold bytes; rw [List.length_append, up_length, sum4_length]
def putB (k : UInt8) (b : List UInt8) : List UInt8 := if 65535 < b.length then [] else bytes k b
def putE (b : List UInt8) : Nat := if 65535 < b.length then 3 else 0
/-- What stands at a place: kind, body, the place behind, the error. -/
def take (b : List UInt8) (p : Int) : UInt8 × List UInt8 × Int × Nat :=
  if p < 0 ∨ (b.length : Int) ≤ p then (0, [], p, 10)
  else if (Var.take b (p + 1)).2.2 ≠ 0 then (0, [], p, (Var.take b (p + 1)).2.2)
  else if 65535 < (Var.take b (p + 1)).1 then (0, [], p, 3)
  else if b.length < (Var.take b (p + 1)).2.1.toNat + (Var.take b (p + 1)).1 + 4 then (0, [], p, 10)
  else if (b.take ((Var.take b (p + 1)).2.1.toNat + (Var.take b (p + 1)).1 + 4)).drop ((Var.take b (p + 1)).2.1.toNat + (Var.take b (p + 1)).1) = sum4 (Crc.update 0 ((b.take ((Var.take b (p + 1)).2.1.toNat + (Var.take b (p + 1)).1)).drop p.toNat)) then
    (b.getD p.toNat 0, (b.take ((Var.take b (p + 1)).2.1.toNat + (Var.take b (p + 1)).1)).drop (Var.take b (p + 1)).2.1.toNat, (((Var.take b (p + 1)).2.1.toNat + (Var.take b (p + 1)).1 + 4 : Nat) : Int), 0)
  else (0, [], p, 30)
/-- The ways that 'take' goes. -/
inductive Way (b : List UInt8) (p : Int) : Prop
  | out (h : p < 0 ∨ (b.length : Int) ≤ p) (e : take b p = (0, [], p, 10))
  | odd (q : Nat) (hp : p = q) (hq : q < b.length) (x : Nat) (hx : x = 10 ∨ x = 11) (hv : Var.take b ((q : Int) + 1) = (0, (q : Int) + 1, x)) (e : take b p = (0, [], p, x))
  | big (q v s : Nat) (hp : p = q) (hq : q < b.length) (hv : Var.take b ((q : Int) + 1) = (v, (s : Int), 0)) (hs : q + 1 < s) (hs2 : s ≤ b.length) (hb : 65535 < v) (h64 : v < 18446744073709551616) (e : take b p = (0, [], p, 3))
  | short (q v s : Nat) (hp : p = q) (hq : q < b.length) (hv : Var.take b ((q : Int) + 1) = (v, (s : Int), 0)) (hs : q + 1 < s) (hs2 : s ≤ b.length) (hb : v ≤ 65535) (hl : b.length < s + v + 4) (e : take b p = (0, [], p, 10))
  | sum (q v s : Nat) (hp : p = q) (hq : q < b.length) (hv : Var.take b ((q : Int) + 1) = (v, (s : Int), 0)) (hs : q + 1 < s) (hs2 : s ≤ b.length) (hb : v ≤ 65535) (hl : s + v + 4 ≤ b.length)
      (hn : (b.take (s + v + 4)).drop (s + v) ≠ sum4 (Crc.update 0 ((b.take (s + v)).drop q))) (e : take b p = (0, [], p, 30))
  | ok (q v s : Nat) (hp : p = q) (hq : q < b.length) (hv : Var.take b ((q : Int) + 1) = (v, (s : Int), 0)) (hs : q + 1 < s) (hs2 : s ≤ b.length) (hb : v ≤ 65535) (hl : s + v + 4 ≤ b.length)
      (hn : (b.take (s + v + 4)).drop (s + v) = sum4 (Crc.update 0 ((b.take (s + v)).drop q))) (e : take b p = (b[q], (b.take (s + v)).drop s, ((s + v + 4 : Nat) : Int), 0))
theorem way (b : List UInt8) (p : Int) : Way b p := by
  by_cases h0 : p < 0 ∨ (b.length : Int) ≤ p
  · exact .out h0 (by unfold take; rw [if_pos h0])
  · obtain ⟨q, hp⟩ : ∃ q : Nat, p = q := ⟨p.toNat, by omega⟩
    have hq : q < b.length := by omega
    subst hp
    rcases Var.take_cases b ((q : Int) + 1) with ⟨v, s, q', hv, hq', h1, h2, h3⟩ | hv | hv
    · have hs : q + 1 < s := by omega
      by_cases hb : 65535 < v
      · exact .big q v s rfl hq hv hs h2 hb h3 (by unfold take; rw [if_neg h0, hv]; simp only; rw [if_neg (by simp), if_pos hb])
      · by_cases hl : b.length < s + v + 4
        · exact .short q v s rfl hq hv hs h2 (by omega) hl (by unfold take; rw [if_neg h0, hv]; simp only [Int.toNat_natCast]; rw [if_neg (by simp), if_neg hb, if_pos hl])
        · by_cases hn : (b.take (s + v + 4)).drop (s + v) = sum4 (Crc.update 0 ((b.take (s + v)).drop q))
          · exact .ok q v s rfl hq hv hs h2 (by omega) (by omega) hn (by unfold take; rw [if_neg h0, hv]; simp only [Int.toNat_natCast]; rw [if_neg (by simp), if_neg hb, if_neg hl, if_pos hn]; simp [List.getD, hq])
          · exact .sum q v s rfl hq hv hs h2 (by omega) (by omega) hn (by unfold take; rw [if_neg h0, hv]; simp only [Int.toNat_natCast]; rw [if_neg (by simp), if_neg hb, if_neg hl, if_neg hn])
    · exact .odd q rfl hq 10 (.inl rfl) hv (by unfold take; rw [if_neg h0, hv]; simp)
    · exact .odd q rfl hq 11 (.inr rfl) hv (by unfold take; rw [if_neg h0, hv]; simp)
end Fra
/-- A call hands back a frame, the place behind, and the error: the body in new memory (or nil). -/
def FrP (k : UInt8) (body : List UInt8) (nx : Int) (x : Nat) (e : TypeId) (w : World) (en : Ending) (w' : World) : Prop :=
  ∃ D c, en = .returned (.tuple #[.agg #[.int .u8 (k.toNat : Nat), .slice D body.length c], .int .i64 nx, .int .i64 (x : Nat)]) ∧ w'.ownsRow w.heap.size e 1 (.slice D body.length c) body.length (byts body) ∧ Below w.heap.size w w'
theorem whole2 {w : World} {g : Nat} {t : TypeId} {a0 a1 : Value} (h : Whole w g t #[a0, a1]) (u0 u1 : Value) : Whole ((w.setCell ⟨g, 0, none⟩ u0).setCell ⟨g, 1, none⟩ u1) g t #[u0, u1] := (h.put_ 0 u0).put_ 1 u1
theorem bel2 {B g : Nat} {a w : World} (h : Below B a w) (hg : B ≤ g) (u0 u1 : Value) : Below B a ((w.setCell ⟨g, 0, none⟩ u0).setCell ⟨g, 1, none⟩ u1) := (h.setCell hg u0).setCell hg u1
end Go.Proofs.Ytmobgamlednlhaa
