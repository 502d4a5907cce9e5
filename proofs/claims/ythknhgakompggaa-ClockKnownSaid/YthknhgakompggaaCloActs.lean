/-
  Ticks that came in as arguments, opened.
-/
import Derived.Test.YthknhgakompggaaLeaOpen
namespace Go.Proofs.Ythknhgakompggaa
open Go.RowKit Go.ChangeShapes Go.WideShapes Go.Deep
/-- A tick: whose clock, by how much. -/
structure CAct where
  p : Int
  y : UInt64
namespace CAct
def cs (l : CAct) : List Value := [.int .i64 l.p, .int .u64 (l.y.toNat : Nat)]
theorem cs_length (l : CAct) : l.cs.length = 2 := rfl
def ok (l : CAct) : Prop := -9223372036854775808 ≤ l.p ∧ l.p ≤ 9223372036854775807
end CAct
theorem list2 {cs : List Value} (h : cs.length = 2) : ∃ a b, cs = [a, b] := by
  match cs, h with
  | [a, b], _ => exact ⟨a, b, rfl⟩
section
variable {H : Type} {enc : TypeId × Value → H} {w : World}
theorem tick_one : ∃ fs, Try.prog.underlying 65 = some (.struct fs) ∧ fs.size = 2 ∧ oneCellFields Try.prog fs = true ∧ Try.prog.cellsOf 65 = fs.size ∧ (∃ f, fs[0]? = some f ∧ f.type = 3) ∧ ∃ f, fs[1]? = some f ∧ f.type = 22 :=
  ⟨_, Try.underlying65, rfl, by kernel_rfl, by kernel_rfl, ⟨_, rfl, rfl⟩, ⟨_, rfl, rfl⟩⟩
theorem tick_cells {fuel : Nat} {cs : List Value} {y : DataW H × List MemPlace} (h : DataW.trod enc Try.prog w 0 (fun _ => true) true fuel 65 cs = some y) : ∃ l : CAct, cs = l.cs ∧ l.ok := by
  obtain ⟨fs, ht, hs, hone, hC, ⟨f0, e0, t0⟩, f1, e1, t1⟩ := tick_one
  obtain ⟨hl, hf⟩ := struct_cells ht hone hC h
  rw [hs] at hl
  obtain ⟨v0, n0, y0, hc0, ht0⟩ := hf 0 f0 e0
  rw [t0] at ht0
  obtain ⟨z, rfl, hz1, hz2⟩ := cell_i64 Try.underlying3 ht0
  obtain ⟨v1, n1, y1, hc1, ht1⟩ := hf 1 f1 e1
  rw [t1] at ht1
  obtain ⟨m, rfl, hm⟩ := cell_u64 Try.underlying22 ht1
  refine ⟨⟨z, UInt64.ofNat m⟩, ?_, hz1, hz2⟩
  obtain ⟨x0, x1, rfl⟩ := list2 hl
  simp at hc0 hc1
  subst hc0 hc1
  show _ = [Value.int .i64 z, Value.int .u64 (((UInt64.ofNat m).toNat : Nat) : Int)]
  rw [UInt64.toNat_ofNat', Nat.mod_eq_of_lt (show m < 2 ^ 64 by omega)]
theorem open_ticks {a : Option Addr} {len cap : Nat} {d : DataW H} {p : List MemPlace} (h : DataW.Trod enc Try.prog w 0 (fun _ => true) true 60 (.slice a len cap) d p) :
    len ≤ cap ∧ cap ≤ maxLen ∧ ∃ xs : List CAct, Rd w w.heap.size 2 a len (xs.flatMap CAct.cs) ∧ xs.length = len ∧ ∀ x ∈ xs, x.ok :=
  open_list Try.underlying60 (by kernel_rfl) (by omega) CAct.cs_length (fun _ _ _ h => tick_cells h) h
end
end Go.Proofs.Ythknhgakompggaa
