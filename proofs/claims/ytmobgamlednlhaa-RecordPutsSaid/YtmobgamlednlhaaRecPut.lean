/-
  Records: their cells by number, and what each visitor does with them. Plain Lean, no function of the program in sight.
-/
import Derived.Test.YtmobgamlednlhaaRecPlain
import Derived.Test.YtmobgamlednlhaaVarMore
namespace Go.Proofs.Ytmobgamlednlhaa
open Go.RowKit
namespace Rc
/-- The number in a cell. -/
def at_ (r : Rc) (i : Nat) : Nat := if i = 1 then r.proc else if i = 2 then r.inc else if i = 3 then r.seq else if i = 4 then r.epoch else if i = 5 then r.until_ else if i = 6 then r.version else if i = 7 then r.clock else if i = 8 then r.size else r.crc
/-- The text in a cell. -/
def tat (r : Rc) (i : Nat) : ByteArray := if i = 10 then r.name else r.to
/-- A record with a cell another one. -/
def put (r : Rc) (i n : Nat) (s : ByteArray) : Rc := if i = 1 then { r with proc := n } else if i = 2 then { r with inc := n } else if i = 3 then { r with seq := n } else if i = 4 then { r with epoch := n } else if i = 5 then { r with until_ := n } else if i = 6 then { r with version := n } else if i = 7 then { r with clock := n } else if i = 8 then { r with size := n } else if i = 9 then { r with crc := n } else if i = 10 then { r with name := s } else { r with to := s }
theorem nine {i : Nat} (h1 : 1 ≤ i) (h2 : i ≤ 9) : i = 1 ∨ i = 2 ∨ i = 3 ∨ i = 4 ∨ i = 5 ∨ i = 6 ∨ i = 7 ∨ i = 8 ∨ i = 9 := by omega
theorem cells_at (r : Rc) {i : Nat} (h1 : 1 ≤ i) (h2 : i ≤ 9) : r.cells[i]? = some (.int .u64 (r.at_ i : Nat)) := by
  rcases nine h1 h2 with rfl | rfl | rfl | rfl | rfl | rfl | rfl | rfl | rfl <;> rfl
theorem cells_tat (r : Rc) {i : Nat} (h : i = 10 ∨ i = 11) : r.cells[i]? = some (.string (r.tat i)) := by
  rcases h with rfl | rfl <;> rfl
theorem cells_put (r : Rc) {i : Nat} (h1 : 1 ≤ i) (h2 : i ≤ 9) (n : Nat) (s : ByteArray) : r.cells.setIfInBounds i (.int .u64 (n : Nat)) = (r.put i n s).cells := by
  rcases nine h1 h2 with rfl | rfl | rfl | rfl | rfl | rfl | rfl | rfl | rfl <;> rfl
theorem cells_putt (r : Rc) {i : Nat} (h : i = 10 ∨ i = 11) (n : Nat) (s : ByteArray) : r.cells.setIfInBounds i (.string s) = (r.put i n s).cells := by
  rcases h with rfl | rfl <;> rfl
theorem ok_at {r : Rc} (h : r.ok) (i : Nat) : r.at_ i < 18446744073709551616 := by
  obtain ⟨_, h1, h2, h3, h4, h5, h6, h7, h8, h9, _⟩ := h
  unfold at_
  repeat' split
  all_goals assumption
theorem ok_tat {r : Rc} (h : r.ok) (i : Nat) : (r.tat i).size ≤ maxLen := by
  obtain ⟨_, _, _, _, _, _, _, _, _, _, h1, h2⟩ := h
  unfold tat
  split <;> assumption
theorem ok_put {r : Rc} (h : r.ok) (i : Nat) {n : Nat} (hn : n < 18446744073709551616) {s : ByteArray} (hs : s.size ≤ maxLen) : (r.put i n s).ok := by
  obtain ⟨h0, h1, h2, h3, h4, h5, h6, h7, h8, h9, h10, h11⟩ := h
  unfold put ok
  repeat' split
  all_goals (refine ⟨?_, ?_, ?_, ?_, ?_, ?_, ?_, ?_, ?_, ?_, ?_, ?_⟩ <;> assumption)
/-- What the taker does. -/
def takeStep (x : Rc × Bool) (i : Nat) : Rc × Bool := (x.1.put i 0 ⟨#[]⟩, if i ≤ 9 then x.2 else x.2 || decide ((x.1.tat i).size = 0) || decide (64 < (x.1.tat i).size))
def takeAll (r : Rc) (l : List Nat) : Rc × Bool := l.foldl takeStep (r, false)
theorem takeAll_snoc (r : Rc) (l : List Nat) (i : Nat) : takeAll r (l ++ [i]) = takeStep (takeAll r l) i := by unfold takeAll; rw [List.foldl_append]; rfl
/-- What the writer writes. -/
def encStep (r : Rc) (i : Nat) : List UInt8 := if i ≤ 9 then Var.put (r.at_ i) else Var.put (r.tat i).size ++ (r.tat i).data.toList
def enc (r : Rc) (l : List Nat) : List UInt8 := l.flatMap r.encStep
theorem enc_snoc (r : Rc) (l : List Nat) (i : Nat) : r.enc (l ++ [i]) = r.enc l ++ r.encStep i := by unfold enc; rw [List.flatMap_append]; simp
/-- What the reader reads. -/
def readStep (b : List UInt8) (x : Rc × Int × Nat) (i : Nat) : Rc × Int × Nat :=
  if x.2.2 = 0 then (if i ≤ 9 then (x.1.put i (Var.take b x.2.1).1 ⟨#[]⟩, (Var.take b x.2.1).2.1, (Var.take b x.2.1).2.2) else (x.1.put i 0 ⟨(Var.ttext b x.2.1).1.toArray⟩, (Var.ttext b x.2.1).2.1, (Var.ttext b x.2.1).2.2)) else x
def readAll (b : List UInt8) (r : Rc) (l : List Nat) : Rc × Int × Nat := l.foldl (readStep b) (r, 0, 0)
theorem readAll_snoc (b : List UInt8) (r : Rc) (l : List Nat) (i : Nat) : readAll b r (l ++ [i]) = readStep b (readAll b r l) i := by unfold readAll; rw [List.foldl_append]; rfl
end Rc
end Go.Proofs.Ytmobgamlednlhaa
