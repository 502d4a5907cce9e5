/-
  Records: letters and parts. Plain Lean, no function of the program in sight.
-/
import Derived.Test.YtmobgamlednlhaaRecStruct
namespace Go.Proofs.Ytmobgamlednlhaa
open Go.RowKit
namespace Rc
/-- The letter of a part. -/
def lett (p : Nat) : UInt8 := ([101, 117, 118, 107, 115, 99, 110, 116] : List UInt8).getD p 0
theorem letters_eq (k : Nat) : letters k = (pl k).map lett := by
  rcases Nat.lt_or_ge k 12 with h | h
  · have hc : k = 0 ∨ k = 1 ∨ k = 2 ∨ k = 3 ∨ k = 4 ∨ k = 5 ∨ k = 6 ∨ k = 7 ∨ k = 8 ∨ k = 9 ∨ k = 10 ∨ k = 11 := by omega
    rcases hc with rfl | rfl | rfl | rfl | rfl | rfl | rfl | rfl | rfl | rfl | rfl | rfl <;> rfl
  · unfold letters pl
    rw [List.getD_eq_getElem?_getD, List.getElem?_eq_none (by simpa using h), List.getD_eq_getElem?_getD, List.getElem?_eq_none (by simpa using h)]
    rfl
theorem eight {p : Nat} (h : p < 8) : p = 0 ∨ p = 1 ∨ p = 2 ∨ p = 3 ∨ p = 4 ∨ p = 5 ∨ p = 6 ∨ p = 7 := by omega
theorem lett_text {p : Nat} (h : p < 8) : isText (lett p).toNat = decide (6 ≤ p) := by
  rcases eight h with rfl | rfl | rfl | rfl | rfl | rfl | rfl | rfl <;> rfl
theorem lett_num (r : Rc) {p : Nat} (h : p < 6) : r.num (lett p).toNat = r.at_ (p + 4) := by
  rcases eight (show p < 8 by omega) with rfl | rfl | rfl | rfl | rfl | rfl | rfl | rfl <;> first | rfl | omega
theorem lett_txt (r : Rc) {p : Nat} (h : 6 ≤ p) (h8 : p < 8) : r.txt (lett p).toNat = r.tat (p + 4) := by
  rcases eight h8 with rfl | rfl | rfl | rfl | rfl | rfl | rfl | rfl <;> first | rfl | omega
theorem lett_with (r : Rc) {p : Nat} (h : p < 8) (n : Nat) (s : ByteArray) : r.with_ (lett p).toNat n s = r.put (p + 4) n s := by
  rcases eight h with rfl | rfl | rfl | rfl | rfl | rfl | rfl | rfl <;> rfl
/-- The places told of by the first j letters. -/
def pre (k j : Nat) : List Nat := [1, 2, 3] ++ ((pl k).take j).map (· + 4)
theorem pre_zero (k : Nat) : pre k 0 = [1, 2, 3] := rfl
theorem pre_succ {k j : Nat} (h : j < (pl k).length) : pre k (j + 1) = pre k j ++ [(pl k)[j] + 4] := by
  unfold pre
  rw [List.take_succ_eq_append_getElem h, List.map_append, List.append_assoc]
  rfl
theorem pre_all (k : Nat) : pre k (pl k).length = places k := by
  unfold pre places
  rw [List.take_length]
theorem letters_at {k j : Nat} (h : j < (pl k).length) : (letters k)[j]? = some (lett (pl k)[j]) := by
  rw [letters_eq, List.getElem?_map, List.getElem?_eq_getElem h]
  rfl
theorem letters_length (k : Nat) : (letters k).length = (pl k).length := by rw [letters_eq, List.length_map]
end Rc
end Go.Proofs.Ytmobgamlednlhaa
