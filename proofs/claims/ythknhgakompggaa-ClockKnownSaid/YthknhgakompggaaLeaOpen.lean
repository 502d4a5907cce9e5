/-
  Leases, and acts on them, that came in as arguments, opened.
-/
import Derived.Test.YthknhgakompggaaProg
import Derived.Test.YthknhgakompggaaLeaPlain
import Derived.Test.YthknhgakompggaaOpenMore
namespace Go.Proofs.Ythknhgakompggaa
open Go.RowKit Go.ChangeShapes Go.WideShapes Go.Deep
theorem list5 {cs : List Value} (h : cs.length = 5) : ∃ a b c d e, cs = [a, b, c, d, e] := by
  match cs, h with
  | [a, b, c, d, e], _ => exact ⟨a, b, c, d, e, rfl⟩
theorem list4 {cs : List Value} (h : cs.length = 4) : ∃ a b c d, cs = [a, b, c, d] := by
  match cs, h with
  | [a, b, c, d], _ => exact ⟨a, b, c, d, rfl⟩
section
variable {H : Type} {enc : TypeId × Value → H} {w : World}
theorem lease_one : ∃ fs, Try.prog.underlying 24 = some (.struct fs) ∧ fs.size = 5 ∧ oneCellFields Try.prog fs = true ∧ Try.prog.cellsOf 24 = fs.size ∧ (∀ j, j < 4 → ∃ f, fs[j]? = some f ∧ f.type = 22) ∧ ∃ f, fs[4]? = some f ∧ f.type = 4 :=
  ⟨_, Try.underlying24, rfl, by kernel_rfl, by kernel_rfl, fun j hj => by
    have : j = 0 ∨ j = 1 ∨ j = 2 ∨ j = 3 := by omega
    rcases this with rfl | rfl | rfl | rfl <;> exact ⟨_, rfl, rfl⟩, ⟨_, rfl, rfl⟩⟩
theorem lease_cells {fuel : Nat} {cs : List Value} {y : DataW H × List MemPlace} (h : DataW.trod enc Try.prog w 0 (fun _ => true) true fuel 24 cs = some y) : ∃ l : Ls, cs = l.cs ∧ l.ok := by
  obtain ⟨fs, ht, hs, hone, hC, h4, hb⟩ := lease_one
  obtain ⟨hl, hf⟩ := struct_cells ht hone hC h
  rw [hs] at hl
  have key : ∀ j, j < 4 → ∃ m : Nat, cs[j]? = some (.int .u64 (m : Nat)) ∧ m < 18446744073709551616 := by
    intro j hj
    obtain ⟨f, e1, e2⟩ := h4 j hj
    obtain ⟨v, n, y', hc, ht'⟩ := hf j f e1
    rw [e2] at ht'
    obtain ⟨m, rfl, hm⟩ := cell_u64 Try.underlying22 ht'
    exact ⟨m, hc, hm⟩
  obtain ⟨a, ha, ha'⟩ := key 0 (by omega)
  obtain ⟨b, hb1, hb'⟩ := key 1 (by omega)
  obtain ⟨c, hc, hc'⟩ := key 2 (by omega)
  obtain ⟨d, hd, hd'⟩ := key 3 (by omega)
  obtain ⟨f, e1, e2⟩ := hb
  obtain ⟨v, n, y', he, ht'⟩ := hf 4 f e1
  rw [e2] at ht'
  obtain ⟨t, rfl⟩ := cell_bool Try.underlying4 ht'
  refine ⟨⟨a, b, c, d, t⟩, ?_, ha', hb', hc', hd'⟩
  obtain ⟨x0, x1, x2, x3, x4, rfl⟩ := list5 hl
  simp at ha hb1 hc hd he
  subst ha hb1 hc hd he
  rfl
theorem open_lease {base : Nat} {v : Value} {d : DataW H} {p : List MemPlace} (hv : Value.okWide Try.prog w .any base 24 v) (h : DataW.Trod enc Try.prog w 0 (fun _ => true) true 24 v d p) : ∃ l : Ls, v = l.v ∧ l.ok := by
  obtain ⟨fs, ht, _⟩ := lease_one
  obtain ⟨cs, rfl, _⟩ := okWide_struct ht hv
  obtain ⟨fuel, hf⟩ := h
  obtain ⟨l, hl, hok⟩ := lease_cells hf
  refine ⟨l, ?_, hok⟩
  have : cs.toList = l.cs := hl
  obtain ⟨cs⟩ := cs
  simp only at this
  subst this
  rfl
theorem open_leases {a : Option Addr} {len cap : Nat} {d : DataW H} {p : List MemPlace} (h : DataW.Trod enc Try.prog w 0 (fun _ => true) true 50 (.slice a len cap) d p) :
    len ≤ cap ∧ cap ≤ maxLen ∧ ∃ xs : List Ls, Rd w w.heap.size 5 a len (xs.flatMap Ls.cs) ∧ xs.length = len ∧ ∀ x ∈ xs, x.ok :=
  open_list Try.underlying50 (by kernel_rfl) (by omega) Ls.cs_length (fun _ _ _ h => lease_cells h) h
theorem act_one : ∃ fs, Try.prog.underlying 43 = some (.struct fs) ∧ fs.size = 4 ∧ oneCellFields Try.prog fs = true ∧ Try.prog.cellsOf 43 = fs.size ∧ (∃ f, fs[0]? = some f ∧ f.type = 3) ∧ ∀ j, j < 3 → ∃ f, fs[j + 1]? = some f ∧ f.type = 22 :=
  ⟨_, Try.underlying43, rfl, by kernel_rfl, by kernel_rfl, ⟨_, rfl, rfl⟩, fun j hj => by
    have : j = 0 ∨ j = 1 ∨ j = 2 := by omega
    rcases this with rfl | rfl | rfl <;> exact ⟨_, rfl, rfl⟩⟩
theorem act_cells {fuel : Nat} {cs : List Value} {y : DataW H × List MemPlace} (h : DataW.trod enc Try.prog w 0 (fun _ => true) true fuel 43 cs = some y) : ∃ l : LAct, cs = l.cs ∧ l.ok := by
  obtain ⟨fs, ht, hs, hone, hC, hb, h4⟩ := act_one
  obtain ⟨hl, hf⟩ := struct_cells ht hone hC h
  rw [hs] at hl
  have key : ∀ j, j < 3 → ∃ m : Nat, cs[j + 1]? = some (.int .u64 (m : Nat)) ∧ m < 18446744073709551616 := by
    intro j hj
    obtain ⟨f, e1, e2⟩ := h4 j hj
    obtain ⟨v, n, y', hc, ht'⟩ := hf (j + 1) f e1
    rw [e2] at ht'
    obtain ⟨m, rfl, hm⟩ := cell_u64 Try.underlying22 ht'
    exact ⟨m, hc, hm⟩
  obtain ⟨a, ha, ha'⟩ := key 0 (by omega)
  obtain ⟨b, hb1, hb'⟩ := key 1 (by omega)
  obtain ⟨c, hc, hc'⟩ := key 2 (by omega)
  obtain ⟨f, e1, e2⟩ := hb
  obtain ⟨v, n, y', he, ht'⟩ := hf 0 f e1
  rw [e2] at ht'
  obtain ⟨z, rfl, hz1, hz2⟩ := cell_i64 Try.underlying3 ht'
  refine ⟨⟨z, a, b, c⟩, ?_, hz1, hz2, ha', hb', hc'⟩
  obtain ⟨x0, x1, x2, x3, rfl⟩ := list4 hl
  simp at ha hb1 hc he
  subst ha hb1 hc he
  rfl
theorem open_acts {a : Option Addr} {len cap : Nat} {d : DataW H} {p : List MemPlace} (h : DataW.Trod enc Try.prog w 0 (fun _ => true) true 41 (.slice a len cap) d p) :
    len ≤ cap ∧ cap ≤ maxLen ∧ ∃ xs : List LAct, Rd w w.heap.size 4 a len (xs.flatMap LAct.cs) ∧ xs.length = len ∧ ∀ x ∈ xs, x.ok :=
  open_list Try.underlying41 (by kernel_rfl) (by omega) LAct.cs_length (fun _ _ _ h => act_cells h) h
end
end Go.Proofs.Ythknhgakompggaa
