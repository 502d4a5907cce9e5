/-
  A row of numbers of one's own: an element written; another block written.
-/
import Derived.Test.YthknhgakompggaaCloFuns
namespace Go.Proofs.Ythknhgakompggaa
open Go.RowKit
theorem own_far {w : World} {base : Nat} {e : TypeId} {s n c : Nat} {A : Option Addr} {xs : List Value} (h : w.ownsRow base e s (.slice A n c) n xs) {p : Addr} (hp : ∀ b, A = some ⟨b, 0, none⟩ → b ≠ p.block) (u : Value) :
    (w.setCell p u).ownsRow base e s (.slice A n c) n xs := by
  refine ⟨h.1, ?_⟩
  rcases h.2 with h1 | ⟨g, cap, cur, hv, hb, hh, h3⟩
  · exact .inl h1
  · injection hv with e1 e2 e3
    subst e1 e3
    exact .inr ⟨g, c, cur, rfl, hb, (Below.heap_setCell w p u g (hp g rfl)).trans hh, h3⟩
theorem own_lt {w : World} {base : Nat} {e : TypeId} {s n c : Nat} {A : Option Addr} {xs : List Value} (h : w.ownsRow base e s (.slice A n c) n xs) : ∀ b, A = some ⟨b, 0, none⟩ → base ≤ b ∧ b < w.heap.size := by
  intro b hb
  rcases h.2 with ⟨h1, _⟩ | ⟨g, cap, cur, hv, hg, hh, _⟩
  · injection h1 with e1; rw [hb] at e1; cases e1
  · injection hv with e1 _ _
    rw [hb] at e1
    injection e1 with e1
    injection e1 with e1 _ _
    subst e1
    exact ⟨hg, Whole.lt (show Whole w b e cur from hh)⟩
theorem ClkAt.far {w : World} {base g : Nat} {D : Option Addr} {c n : Nat} {l : List UInt64} (h : ClkAt w base g D c n l) {p : Addr} (hp : p.block < base) (u : Value) : ClkAt (w.setCell p u) base g D c n l :=
  ⟨h.1, h.2.1.far (by have := h.1; omega) u, own_far h.2.2 (fun b hb => by have := (own_lt h.2.2 b hb).1; omega) u⟩
theorem own_under {w w' : World} {base B : Nat} {e : TypeId} {s n c : Nat} {A : Option Addr} {xs : List Value} (h : w.ownsRow base e s (.slice A n c) n xs) (hb : Below B w w') (hB : ∀ b, A = some ⟨b, 0, none⟩ → b < B) : w'.ownsRow base e s (.slice A n c) n xs := by
  refine ⟨h.1, ?_⟩
  rcases h.2 with h1 | ⟨g, cap, cur, hv, hg, hh, h3⟩
  · exact .inl h1
  · injection hv with e1 e2 e3
    subst e1 e3
    exact .inr ⟨g, c, cur, rfl, hg, (hb.block g (hB g rfl)).trans hh, h3⟩
theorem till_ge {a b : Nat} (h : a < 18446744073709551616) : a ≤ till a b := by unfold till; split <;> omega
theorem own_set {w : World} {base : Nat} {e : TypeId} {n c k : Nat} {A : Option Addr} {l : List UInt64} (h : w.ownsRow base e 1 (.slice A n c) n (nums l)) (hk : k < n) (y : UInt64) :
    ∃ d, A = some ⟨d, 0, none⟩ ∧ base ≤ d ∧ d < w.heap.size ∧ w.frozen? ⟨d, k, none⟩ = false ∧ (∃ v, w.cell? ⟨d, k, none⟩ = some v) ∧
      (w.setCell ⟨d, k, none⟩ (.int .u64 (y.toNat : Nat))).ownsRow base e 1 (.slice A n c) n (nums (l.set k y)) := by
  have hl : l.length = n := by have := h.1; rw [nums_length] at this; omega
  rcases h.2 with ⟨_, h0⟩ | ⟨d, cap, cur, hv, hb, hh, hc1, hc2, hs, ht⟩
  · omega
  · injection hv with e1 e2 e3
    subst e1 e3
    have hw : Whole w d e cur := hh
    refine ⟨d, rfl, hb, hw.lt, hw.frozen k, ⟨cur[k]'(by omega), by rw [hw.cell]; exact Array.getElem?_eq_getElem (by omega)⟩, by rw [nums_length, List.length_set, hl, Nat.mul_one], .inr ⟨d, c, _, rfl, hb, hw.put_ k _, hc1, hc2, by rw [Array.size_setIfInBounds, hs], ?_⟩⟩
    rw [Array.toList_setIfInBounds, List.take_set, ht]
    unfold nums
    rw [List.map_set]
end Go.Proofs.Ythknhgakompggaa
