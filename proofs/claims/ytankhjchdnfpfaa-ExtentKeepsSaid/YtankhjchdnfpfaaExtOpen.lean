/-
  Acts, rows of acts, rows of Booleans that came in as arguments, opened.
-/
import Derived.Test.YtankhjchdnfpfaaProg
import Derived.Test.YtankhjchdnfpfaaOpenMore
import Derived.Test.YtankhjchdnfpfaaExtFew
namespace Go.Proofs.Ytankhjchdnfpfaa
open Go.RowKit Go.ChangeShapes Go.WideShapes Go.Deep
section
variable {H : Type} {enc : TypeId × Value → H} {w : World}
theorem bools_flat (xs : List Bool) : xs.flatMap (fun b => [Value.bool b]) = bools xs := by
  induction xs with
  | nil => rfl
  | cons x xs ih => rw [List.flatMap_cons, ih]; rfl
theorem open_bools {t e : TypeId} {a : Option Addr} {len cap : Nat} {d : DataW H} {p : List MemPlace} (ht : Try.prog.underlying t = some (.slice e)) (he : Try.prog.underlying e = some .bool) (ce : Try.prog.cellsOf e = 1)
    (h : DataW.Trod enc Try.prog w 0 (fun _ => true) true t (.slice a len cap) d p) : len ≤ cap ∧ cap ≤ maxLen ∧ ∃ xs : List Bool, Rd w w.heap.size 1 a len (bools xs) := by
  obtain ⟨h1, h2, xs, h3, _, _⟩ := open_list (α := Bool) (f := fun b => [Value.bool b]) (ok := fun _ => True) (s := 1) ht ce (by omega) (fun _ => rfl) (fun fuel cs y hy => by
    obtain ⟨b, hc, _⟩ := DataW.trod_bool he hy
    exact ⟨b, by simpa using hc, trivial⟩) h
  exact ⟨h1, h2, xs, by rw [← bools_flat]; exact h3⟩
theorem act_three : ∃ fs, Try.prog.underlying 40 = some (.struct fs) ∧ fs.size = 3 ∧ oneCellFields Try.prog fs = true ∧ Try.prog.cellsOf 40 = fs.size ∧ (∃ f, fs[0]? = some f ∧ f.type = 3) ∧ (∃ f, fs[1]? = some f ∧ f.type = 26) ∧ ∃ f, fs[2]? = some f ∧ f.type = 38 :=
  ⟨_, Try.underlying40, rfl, by kernel_rfl, by kernel_rfl, ⟨_, rfl, rfl⟩, ⟨_, rfl, rfl⟩, ⟨_, rfl, rfl⟩⟩
theorem slice_shape {t e : TypeId} {fuel : Nat} {v : Value} {y : DataW H × List MemPlace} (ht : Try.prog.underlying t = some (.slice e)) (h : DataW.trod enc Try.prog w 0 (fun _ => true) true fuel t [v] = some y) : ∃ a len cap, v = .slice a len cap := by
  rcases open_slice ht h with ⟨hcs, _⟩ | ⟨x, l, c, m, n, D, Pl, hcs, _⟩
  · exact ⟨none, 0, 0, by simpa using hcs⟩
  · exact ⟨some x, l, c, by simpa using hcs⟩
set_option maxRecDepth 100000 in
theorem act_cells {fuel : Nat} {cs : List Value} {y : DataW H × List MemPlace} (h : DataW.trod enc Try.prog w 0 (fun _ => true) true fuel 40 cs = some y) :
    ∃ (x : Ac) (a1 : Option Addr) (c1 : Nat) (a2 : Option Addr) (c2 : Nat), cs = [.int .i64 x.1, .slice a1 x.2.1.length c1, .slice a2 x.2.2.length c2] ∧ x.2.1.length ≤ c1 ∧ Rd w w.heap.size 1 a1 x.2.1.length (byts x.2.1) ∧ x.2.2.length ≤ c2 ∧ Rd w w.heap.size 1 a2 x.2.2.length (bools x.2.2) := by
  obtain ⟨fs, ht, hs, hone, hC, ⟨f0, e0, t0⟩, ⟨f1, e1, t1⟩, f2, e2, t2⟩ := act_three
  obtain ⟨hl, hf⟩ := struct_cells ht hone hC h
  rw [hs] at hl
  obtain ⟨v0, n0, y0, hc0, ht0⟩ := hf 0 f0 e0
  rw [t0] at ht0
  obtain ⟨v1, n1, y1, hc1, ht1⟩ := hf 1 f1 e1
  rw [t1] at ht1
  obtain ⟨v2, n2, y2, hc2, ht2⟩ := hf 2 f2 e2
  rw [t2] at ht2
  obtain ⟨z, hv0, _⟩ := cell_i64 Try.underlying3 ht0
  obtain ⟨a1, l1, c1, hv1⟩ := slice_shape Try.underlying26 ht1
  obtain ⟨a2, l2, c2, hv2⟩ := slice_shape Try.underlying38 ht2
  subst hv0 hv1 hv2
  obtain ⟨g1, _, xs, r1⟩ := open_bytes (d := y1.1) (p := y1.2) Try.underlying26 Try.underlying5 (by kernel_rfl) ⟨n1, ht1⟩
  obtain ⟨g2, _, bs, r2⟩ := open_bools (d := y2.1) (p := y2.2) Try.underlying38 Try.underlying4 (by kernel_rfl) ⟨n2, ht2⟩
  have q1 := r1.blen
  have q2 : bs.length = l2 := by have := r2.1; rw [bools_length] at this; omega
  subst q1 q2
  match cs, hl with
  | [u0, u1, u2], _ =>
    simp at hc0 hc1 hc2
    subst hc0 hc1 hc2
    exact ⟨(z, xs, bs), a1, c1, a2, c2, rfl, g1, r1, g2, r2⟩
set_option maxRecDepth 100000 in
theorem open_acts {a : Option Addr} {len cap : Nat} {d : DataW H} {p : List MemPlace} (h : DataW.Trod enc Try.prog w 0 (fun _ => true) true 23 (.slice a len cap) d p) :
    len ≤ cap ∧ cap ≤ maxLen ∧ ∃ acts : List Ac, RdAc w w.heap.size a len acts := by
  obtain ⟨fuel, hf⟩ := h
  have hC : Try.prog.cellsOf 40 = 3 := by kernel_rfl
  rcases open_slice Try.underlying23 hf with ⟨hcs, _⟩ | ⟨x, l, c, m, n, D, Pl, hcs, _, hl, hm, hmm, _, hi⟩
  · simp [Value.cells] at hcs
    obtain ⟨rfl, rfl, rfl⟩ := hcs
    exact ⟨Nat.le_refl _, Nat.zero_le _, [], rfl, fun j hj => absurd hj (by simp)⟩
  · simp [Value.cells] at hcs
    obtain ⟨rfl, rfl, rfl⟩ := hcs
    simp only [if_true] at hmm
    subst hmm
    refine ⟨hl, hm, ?_⟩
    have key : ∀ i, i < len → ∃ (f : Ac) (A1 : Option Addr) (c1 : Nat) (A2 : Option Addr) (c2 : Nat), w.cell? (x.add (i * 3)) = some (.int .i64 f.1) ∧ w.cell? (x.add (i * 3 + 1)) = some (.slice A1 f.2.1.length c1) ∧ w.cell? (x.add (i * 3 + 2)) = some (.slice A2 f.2.2.length c2) ∧
        Rd w w.heap.size 1 A1 f.2.1.length (byts f.2.1) ∧ f.2.1.length ≤ c1 ∧ Rd w w.heap.size 1 A2 f.2.2.length (bools f.2.2) ∧ f.2.2.length ≤ c2 := by
      intro i hlt
      obtain ⟨cs', hc, ht'⟩ := hi i (by omega)
      obtain ⟨f, A1, c1, A2, c2, rfl, h1, h2, h3, h4⟩ := act_cells ht'
      obtain ⟨_, hcl, hat⟩ := World.cells?_some hc
      have a0 := hat 0 (by rw [hC]; omega)
      have a1 := hat 1 (by rw [hC]; omega)
      have a2 := hat 2 (by rw [hC]; omega)
      rw [hC, add_add] at a0 a1 a2
      rw [Nat.add_zero] at a0
      exact ⟨f, A1, c1, A2, c2, by rw [a0]; rfl, by rw [a1]; rfl, by rw [a2]; rfl, h2, h1, h4, h3⟩
    have all : ∀ k, k ≤ len → ∃ fs : List Ac, fs.length = k ∧ ∀ i (h : i < fs.length), ∃ (A1 : Option Addr) (c1 : Nat) (A2 : Option Addr) (c2 : Nat), w.cell? (x.add (i * 3)) = some (.int .i64 fs[i].1) ∧ w.cell? (x.add (i * 3 + 1)) = some (.slice A1 fs[i].2.1.length c1) ∧ w.cell? (x.add (i * 3 + 2)) = some (.slice A2 fs[i].2.2.length c2) ∧
        Rd w w.heap.size 1 A1 fs[i].2.1.length (byts fs[i].2.1) ∧ fs[i].2.1.length ≤ c1 ∧ Rd w w.heap.size 1 A2 fs[i].2.2.length (bools fs[i].2.2) ∧ fs[i].2.2.length ≤ c2 := by
      intro k
      induction k with
      | zero => intro _; exact ⟨[], rfl, fun i h => absurd h (by simp)⟩
      | succ k ih =>
        intro hk
        obtain ⟨fs, h1, h3⟩ := ih (by omega)
        obtain ⟨f, hat⟩ := key k (by omega)
        refine ⟨fs ++ [f], by simp [h1], fun i hi => ?_⟩
        rw [List.length_append, List.length_singleton] at hi
        by_cases hik : i < fs.length
        · rw [List.getElem_append_left hik]
          exact h3 i hik
        · have : i = fs.length := by omega
          subst this
          rw [List.getElem_concat_length rfl, h1]
          exact hat
    obtain ⟨fs, h1, h3⟩ := all len (Nat.le_refl _)
    refine ⟨fs, h1, fun j hj => ?_⟩
    obtain ⟨A1, c1, A2, c2, g0, g1, g2, g3, g4, g5, g6⟩ := h3 j hj
    obtain ⟨b, o, sp⟩ := x
    obtain ⟨_, _, _, _, z0, _⟩ := h3 0 (by omega)
    have hz : (⟨b, o, sp⟩ : Addr).add (0 * 3) = ⟨b, o, sp⟩ := by unfold Addr.add; simp
    rw [hz] at z0
    have hsp : sp = none := World.cell?_spot z0
    subst hsp
    rw [add_form] at g0 g1 g2
    exact ⟨b, o, A1, c1, A2, c2, rfl, World.block_lt_of_cell? w _ g0, g0, by rw [← Nat.add_assoc] at g1; exact g1, by rw [← Nat.add_assoc] at g2; exact g2, g3, g4, g5, g6⟩
end
end Go.Proofs.Ytankhjchdnfpfaa
