/-
  The chapter's examples of numbers in groups: works() returns true; and the law's comparison of two rows of numbers.
-/
import Derived.Test.YtmobgamlednlhaaVarRefMore
namespace Go.Proofs.Ytmobgamlednlhaa
open Go.RowKit
theorem Rd.newb (w : World) (t : TypeId) (l : List UInt8) (cs : Array Value) (L : Nat) (h : byts l = cs.toList) (hL : l.length = L) : Rd (w.alloc (.cells cs t)) (w.heap.size + 1) 1 (some ⟨w.heap.size, 0, none⟩) L (byts l) := by
  have e : byts l = cs.toList.take L := by rw [← h, List.take_of_length_le (by rw [byts_length]; omega)]
  rw [e]
  refine Rd.of_heap (Whole.new w t _) (Nat.lt_succ_self _) ?_
  have := congrArg List.length h
  rw [byts_length] at this
  simp at this
  omega
theorem put_at (w : World) (n : Nat) (hn : n < 18446744073709551616) (l : List UInt8) (L : Nat) (he : Var.put n = l) (hL : l.length = L) :
    Calls Try.prog 52 #[.int .u64 (n : Nat)] w (Fresh w.heap.size 5 1 L (byts l) w) := by
  have h := put_any w n hn
  rw [he, hL] at h
  exact h
theorem text_at (w : World) (s : ByteArray) (hs : s.size ≤ 100000) (l : List UInt8) (L : Nat) (he : Var.put s.size ++ s.data.toList = l) (hL : l.length = L) :
    Calls Try.prog 75 #[.string s] w (Fresh w.heap.size 5 1 L (byts l) w) := by
  have h := text_any w s hs
  rw [he, hL] at h
  exact h
theorem take_at (w : World) (A : Option Addr) (n cap : Nat) (b : List UInt8) (B : Nat) (h : Rd w B 1 A n (byts b)) (hc : n ≤ cap) (hm : n ≤ 100000000) (p : Int) (hp1 : -9223372036854775808 ≤ p) (hp2 : p ≤ 9223372036854775807) (v : Nat) (nx : Int) (e : Nat) (he : Var.take b p = (v, nx, e)) :
    Calls Try.prog 48 #[.slice A n cap, .int .i64 p] w fun en w' => en = .returned (.tuple #[.int .u64 (v : Nat), .int .i64 nx, .int .i64 (e : Nat)]) ∧ w = w' := by
  have h := take_any w A n cap b B h hc hm p hp1 hp2
  rw [he] at h
  exact h
theorem takeText_at (w : World) (A : Option Addr) (n cap : Nat) (b : List UInt8) (B : Nat) (h : Rd w B 1 A n (byts b)) (hc : n ≤ cap) (hm : n ≤ 100000000) (p : Int) (hp1 : -9223372036854775808 ≤ p) (hp2 : p ≤ 9223372036854775807) (v : List UInt8) (nx : Int) (e : Nat) (he : Var.ttext b p = (v, nx, e)) :
    Calls Try.prog 80 #[.slice A n cap, .int .i64 p] w fun en w' => en = .returned (.tuple #[.string ⟨v.toArray⟩, .int .i64 nx, .int .i64 (e : Nat)]) ∧ w = w' := by
  have h := takeText_any w A n cap b B h hc hm p hp1 hp2
  rw [he] at h
  exact h
end Go.Proofs.Ytmobgamlednlhaa
