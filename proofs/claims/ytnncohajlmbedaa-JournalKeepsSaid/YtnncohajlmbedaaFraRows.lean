/-
  Rows of frames: what they are; the frames of bytes, one behind the other. No function of the program in sight.
-/
import Derived.Test.YtnncohajlmbedaaFraOne
namespace Go.Proofs.Ytnncohajlmbedaa
open Go.RowKit
abbrev Fr := UInt8 × List UInt8
/-- The cells vs are those of frames, each body in a row of its own. -/
def OwnFr (w : World) (base : Nat) (te : TypeId) (fs : List Fr) (vs : List Value) : Prop :=
  vs.length = fs.length * 2 ∧ ∀ j (hj : j < fs.length), ∃ A c, vs[j * 2]? = some (.int .u8 (fs[j].1.toNat : Nat)) ∧ vs[j * 2 + 1]? = some (.slice A fs[j].2.length c) ∧ w.ownsRow base te 1 (.slice A fs[j].2.length c) fs[j].2.length (byts fs[j].2)
theorem OwnFr.nil (w : World) (base : Nat) (te : TypeId) : OwnFr w base te [] [] := ⟨rfl, fun j hj => absurd hj (by simp)⟩
theorem OwnFr.ext {w w' : World} {base : Nat} {te : TypeId} {fs : List Fr} {vs : List Value} (h : OwnFr w base te fs vs) (k : Below w.heap.size w w') : OwnFr w' base te fs vs :=
  ⟨h.1, fun j hj => by obtain ⟨A, c, h1, h2, h3⟩ := h.2 j hj; exact ⟨A, c, h1, h2, own_ext h3 k⟩⟩
theorem OwnFr.kept {w w' : World} {base base' : Nat} {te tr : TypeId} {s' n' : Nat} {u : Value} {fs : List Fr} {vs ys : List Value} (h : OwnFr w base te fs vs) (hg : w.grownBy w' u.ownBlock) (hu : w.ownsRow base' tr s' u n' ys) (hne : te ≠ tr) :
    OwnFr w' base te fs vs :=
  ⟨h.1, fun j hj => by obtain ⟨A, c, h1, h2, h3⟩ := h.2 j hj; exact ⟨A, c, h1, h2, own_kept h3 hg hu hne⟩⟩
theorem OwnFr.snoc {w : World} {base : Nat} {te : TypeId} {fs : List Fr} {vs : List Value} (h : OwnFr w base te fs vs) {k : UInt8} {l : List UInt8} {A : Option Addr} {c n : Nat} (hn : l.length = n) (ho : w.ownsRow base te 1 (.slice A n c) n (byts l)) :
    OwnFr w base te (fs ++ [(k, l)]) (vs ++ [.int .u8 (k.toNat : Nat), .slice A n c]) := by
  subst hn
  refine ⟨by simp [h.1]; omega, fun j hj => ?_⟩
  rw [List.length_append, List.length_singleton] at hj
  by_cases hlt : j < fs.length
  · obtain ⟨A', c', h1, h2, h3⟩ := h.2 j hlt
    rw [List.getElem_append_left hlt]
    exact ⟨A', c', by rw [List.getElem?_append_left (by rw [h.1]; omega)]; exact h1, by rw [List.getElem?_append_left (by rw [h.1]; omega)]; exact h2, h3⟩
  · obtain rfl : j = fs.length := by omega
    rw [List.getElem_concat_length rfl]
    refine ⟨A, c, ?_, ?_, ho⟩
    · rw [← h.1, List.getElem?_append_right (Nat.le_refl _)]; simp
    · rw [← h.1, List.getElem?_append_right (by omega)]; simp
namespace Fra
/-- The frames from p on, and where they end. -/
def allF (b : List UInt8) : Nat → Nat → List Fr × Nat
  | 0, p => ([], p)
  | f + 1, p => if (take b p).2.2.2 = 0 then (((take b p).1, (take b p).2.1) :: (allF b f (take b p).2.2.1.toNat).1, (allF b f (take b p).2.2.1.toNat).2) else ([], p)
def all (b : List UInt8) : List Fr × Nat := allF b (b.length + 1) 0
theorem allF_stop {b : List UInt8} {f p : Nat} (h : (take b p).2.2.2 ≠ 0) : allF b (f + 1) p = ([], p) := by rw [allF, if_neg h]
theorem allF_go {b : List UInt8} {f p : Nat} {k : UInt8} {bd : List UInt8} {nx : Nat} (h : take b p = (k, bd, (nx : Int), 0)) : allF b (f + 1) p = ((k, bd) :: (allF b f nx).1, (allF b f nx).2) := by
  rw [allF, h]
  simp
/-- Where one stands: the frames that were read, the place, and what is left. -/
def At (b : List UInt8) (pre : List Fr) (p : Nat) : Prop := p ≤ b.length ∧ pre.length ≤ p ∧ ∃ f, b.length < p + f ∧ (pre ++ (allF b f p).1, (allF b f p).2) = all b
theorem At.start (b : List UInt8) : At b [] 0 := ⟨Nat.zero_le _, Nat.le_refl _, b.length + 1, by omega, rfl⟩
theorem At.step {b : List UInt8} {pre : List Fr} {p : Nat} {k : UInt8} {bd : List UInt8} {nx : Nat} (h : At b pre p) (ht : take b p = (k, bd, (nx : Int), 0)) : At b (pre ++ [(k, bd)]) nx ∧ p < nx := by
  obtain ⟨h1, h2, f, h3, h4⟩ := h
  have hb := take_bound b p (by rw [ht])
  rw [ht] at hb
  simp only at hb
  refine ⟨⟨by omega, by rw [List.length_append, List.length_singleton]; omega, f - 1, by omega, ?_⟩, by omega⟩
  rw [← h4]
  obtain ⟨f, rfl⟩ : ∃ g, f = g + 1 := ⟨f - 1, by omega⟩
  rw [allF_go ht]
  simp
theorem At.stop {b : List UInt8} {pre : List Fr} {p : Nat} (h : At b pre p) (ht : (take b p).2.2.2 ≠ 0) : all b = (pre, p) := by
  obtain ⟨h1, h2, f, h3, h4⟩ := h
  obtain ⟨f, rfl⟩ : ∃ g, f = g + 1 := ⟨f - 1, by omega⟩
  rw [← h4, allF_stop ht]
  simp
theorem take_end {b : List UInt8} {p : Nat} (h : b.length ≤ p) : (take b p).2.2.2 ≠ 0 := by
  unfold take
  rw [if_pos (by omega)]
  simp
end Fra
end Go.Proofs.Ytnncohajlmbedaa
