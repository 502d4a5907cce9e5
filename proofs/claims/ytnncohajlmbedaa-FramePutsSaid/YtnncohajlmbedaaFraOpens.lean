/-
  Rows of frames that came in as arguments, opened.
-/
import Derived.Test.YtnncohajlmbedaaFraOpen
import Derived.Test.YtnncohajlmbedaaFraRefsLaw
namespace Go.Proofs.Ytnncohajlmbedaa
open Go.RowKit Go.ChangeShapes Go.WideShapes Go.Deep
section
variable {H : Type} {enc : TypeId × Value → H} {w : World}
set_option maxRecDepth 100000 in
theorem open_frames {a : Option Addr} {len cap : Nat} {d : DataW H} {p : List MemPlace} (h : DataW.Trod enc Try.prog w 0 (fun _ => true) true 33 (.slice a len cap) d p) :
    len ≤ cap ∧ cap ≤ maxLen ∧ ∃ fs : List Fr, RdFr w w.heap.size a len fs := by
  obtain ⟨fuel, hf⟩ := h
  have hC : Try.prog.cellsOf 26 = 2 := by kernel_rfl
  rcases open_slice Try.underlying33 hf with ⟨hcs, _⟩ | ⟨x, l, c, m, n, D, Pl, hcs, _, hl, hm, hmm, _, hi⟩
  · simp [Value.cells] at hcs
    obtain ⟨rfl, rfl, rfl⟩ := hcs
    exact ⟨Nat.le_refl _, Nat.zero_le _, [], rfl, fun j hj => absurd hj (by simp)⟩
  · simp [Value.cells] at hcs
    obtain ⟨rfl, rfl, rfl⟩ := hcs
    simp only [if_true] at hmm
    subst hmm
    refine ⟨hl, hm, ?_⟩
    have key : ∀ i, i < len → ∃ (f : Fr) (A' : Option Addr) (c' : Nat), w.cell? (x.add (i * 2)) = some (.int .u8 (f.1.toNat : Nat)) ∧ w.cell? (x.add (i * 2 + 1)) = some (.slice A' f.2.length c') ∧ f.2.length ≤ c' ∧ c' ≤ maxLen ∧ Rd w w.heap.size 1 A' f.2.length (byts f.2) := by
      intro i hlt
      obtain ⟨cs', hc, ht'⟩ := hi i (by omega)
      obtain ⟨k, A', n', c', ys, rfl, h1, h2, h3⟩ := frame_cells ht'
      obtain ⟨_, hcl, hat⟩ := World.cells?_some hc
      have e : ys.length = n' := h3.blen
      subst e
      have a0 := hat 0 (by rw [hC]; omega)
      have a1 := hat 1 (by rw [hC]; omega)
      rw [hC, add_add] at a0 a1
      rw [Nat.add_zero] at a0
      exact ⟨(k, ys), A', c', by rw [a0]; rfl, by rw [a1]; rfl, h1, h2, h3⟩
    have all : ∀ k, k ≤ len → ∃ fs : List Fr, fs.length = k ∧ ∀ i (h : i < fs.length), ∃ (A' : Option Addr) (c' : Nat), w.cell? (x.add (i * 2)) = some (.int .u8 (fs[i].1.toNat : Nat)) ∧ w.cell? (x.add (i * 2 + 1)) = some (.slice A' fs[i].2.length c') ∧ fs[i].2.length ≤ c' ∧ c' ≤ maxLen ∧ Rd w w.heap.size 1 A' fs[i].2.length (byts fs[i].2) := by
      intro k
      induction k with
      | zero => intro _; exact ⟨[], rfl, fun i h => absurd h (by simp)⟩
      | succ k ih =>
        intro hk
        obtain ⟨fs, h1, h3⟩ := ih (by omega)
        obtain ⟨f, A', c', hat⟩ := key k (by omega)
        refine ⟨fs ++ [f], by simp [h1], fun i hi => ?_⟩
        rw [List.length_append, List.length_singleton] at hi
        by_cases hik : i < fs.length
        · rw [List.getElem_append_left hik]
          exact h3 i hik
        · have : i = fs.length := by omega
          subst this
          rw [List.getElem_concat_length rfl, h1]
          exact ⟨A', c', hat⟩
    obtain ⟨fs, h1, h3⟩ := all len (Nat.le_refl _)
    refine ⟨fs, h1, fun j hj => ?_⟩
    obtain ⟨A', c', g0, g1, g2, g3, g4⟩ := h3 j hj
    obtain ⟨b, o, sp⟩ := x
    obtain ⟨_, _, z0, _⟩ := h3 0 (by omega)
    have hz : (⟨b, o, sp⟩ : Addr).add (0 * 2) = ⟨b, o, sp⟩ := by unfold Addr.add; simp
    rw [hz] at z0
    have hsp : sp = none := World.cell?_spot z0
    subst hsp
    rw [add_form] at g0 g1
    exact ⟨b, o, A', c', rfl, World.block_lt_of_cell? w _ g0, g0, by rw [← Nat.add_assoc] at g1; exact g1, g2, g3, g4⟩
end
end Go.Proofs.Ytnncohajlmbedaa
