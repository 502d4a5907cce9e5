/-
  Records that came in as arguments, opened.
-/
import Derived.Test.YtmobgamlednlhaaProg
import Derived.Test.YtmobgamlednlhaaRecBase
import Derived.Test.YtmobgamlednlhaaOpenMore
import Derived.ChangeMaps5
namespace Go.Proofs.Ytmobgamlednlhaa
open Go.RowKit Go.ChangeShapes Go.WideShapes Go.Deep
theorem list12 {cs : List Value} (h : cs.length = 12) : ∃ a b c d e f g i j k l m, cs = [a, b, c, d, e, f, g, i, j, k, l, m] := by
  match cs, h with
  | [a, b, c, d, e, f, g, i, j, k, l, m], _ => exact ⟨a, b, c, d, e, f, g, i, j, k, l, m, rfl⟩
section
variable {H : Type} {enc : TypeId × Value → H} {P : Program} {w : World}
theorem cell_u8 {base : Nat} {sp : Nat → Bool} {hd : Bool} {t : TypeId} {n : Nat} {v : Value} {y : DataW H × List MemPlace} (ht : P.underlying t = some (.int .u8)) (h : DataW.trod enc P w base sp hd n t [v] = some y) :
    ∃ m : Nat, v = .int .u8 (m : Nat) ∧ m < 256 := by
  obtain ⟨z, hc, _, hw⟩ := DataW.trod_int ht h
  obtain ⟨m, rfl, hm⟩ := nat_u8 hw
  exact ⟨m, by simpa using hc, hm⟩
theorem cell_string {base : Nat} {sp : Nat → Bool} {hd : Bool} {t : TypeId} {n : Nat} {v : Value} {y : DataW H × List MemPlace} (ht : P.underlying t = some .string) (h : DataW.trod enc P w base sp hd n t [v] = some y) :
    ∃ s : ByteArray, v = .string s ∧ s.size ≤ maxLen := by
  obtain ⟨s, hc, _, hs⟩ := DataW.trod_string ht h
  exact ⟨s, by simpa using hc, hs⟩
end
section
variable {H : Type} {enc : TypeId × Value → H} {w : World}
theorem rec_one : ∃ fs, Try.prog.underlying 24 = some (.struct fs) ∧ fs.size = 12 ∧ oneCellFields Try.prog fs = true ∧ Try.prog.cellsOf 24 = fs.size ∧ (∃ f, fs[0]? = some f ∧ f.type = 5) ∧ (∀ j, j < 9 → ∃ f, fs[j + 1]? = some f ∧ f.type = 22) ∧ ∀ j, j < 2 → ∃ f, fs[j + 10]? = some f ∧ f.type = 9 :=
  ⟨_, Try.underlying24, rfl, by kernel_rfl, by kernel_rfl, ⟨_, rfl, rfl⟩, fun j hj => by
    have : j = 0 ∨ j = 1 ∨ j = 2 ∨ j = 3 ∨ j = 4 ∨ j = 5 ∨ j = 6 ∨ j = 7 ∨ j = 8 := by omega
    rcases this with rfl | rfl | rfl | rfl | rfl | rfl | rfl | rfl | rfl <;> exact ⟨_, rfl, rfl⟩, fun j hj => by
    have : j = 0 ∨ j = 1 := by omega
    rcases this with rfl | rfl <;> exact ⟨_, rfl, rfl⟩⟩
set_option maxRecDepth 100000 in
theorem rec_trod {fuel : Nat} {cs : List Value} {y : DataW H × List MemPlace} (h : DataW.trod enc Try.prog w 0 (fun _ => true) true fuel 24 cs = some y) : ∃ r : Rc, cs = r.cells.toList ∧ r.ok := by
  obtain ⟨fs, ht, hs, hone, hC, h0, h9, h2⟩ := rec_one
  obtain ⟨hl, hf⟩ := struct_cells ht hone hC h
  rw [hs] at hl
  have key9 : ∀ j, j < 9 → ∃ m : Nat, cs[j + 1]? = some (.int .u64 (m : Nat)) ∧ m < 18446744073709551616 := by
    intro j hj
    obtain ⟨f, e1, e2⟩ := h9 j hj
    obtain ⟨v, n, y', hc, ht'⟩ := hf (j + 1) f e1
    rw [e2] at ht'
    obtain ⟨m, rfl, hm⟩ := cell_u64 Try.underlying22 ht'
    exact ⟨m, hc, hm⟩
  have key2 : ∀ j, j < 2 → ∃ s : ByteArray, cs[j + 10]? = some (.string s) ∧ s.size ≤ maxLen := by
    intro j hj
    obtain ⟨f, e1, e2⟩ := h2 j hj
    obtain ⟨v, n, y', hc, ht'⟩ := hf (j + 10) f e1
    rw [e2] at ht'
    obtain ⟨s, rfl, hs⟩ := cell_string Try.underlying9 ht'
    exact ⟨s, hc, hs⟩
  obtain ⟨f, e1, e2⟩ := h0
  obtain ⟨v, n, y', hk, ht'⟩ := hf 0 f e1
  rw [e2] at ht'
  obtain ⟨k, rfl, hk'⟩ := cell_u8 Try.underlying5 ht'
  obtain ⟨n1, c1, b1⟩ := key9 0 (by omega)
  obtain ⟨n2, c2, b2⟩ := key9 1 (by omega)
  obtain ⟨n3, c3, b3⟩ := key9 2 (by omega)
  obtain ⟨n4, c4, b4⟩ := key9 3 (by omega)
  obtain ⟨n5, c5, b5⟩ := key9 4 (by omega)
  obtain ⟨n6, c6, b6⟩ := key9 5 (by omega)
  obtain ⟨n7, c7, b7⟩ := key9 6 (by omega)
  obtain ⟨n8, c8, b8⟩ := key9 7 (by omega)
  obtain ⟨n9, c9, b9⟩ := key9 8 (by omega)
  obtain ⟨s1, g1, t1⟩ := key2 0 (by omega)
  obtain ⟨s2, g2, t2⟩ := key2 1 (by omega)
  refine ⟨⟨k, n1, n2, n3, n4, n5, n6, n7, n8, n9, s1, s2⟩, ?_, hk', b1, b2, b3, b4, b5, b6, b7, b8, b9, t1, t2⟩
  obtain ⟨x0, x1, x2, x3, x4, x5, x6, x7, x8, x9, x10, x11, rfl⟩ := list12 hl
  simp at hk c1 c2 c3 c4 c5 c6 c7 c8 c9 g1 g2
  subst hk c1 c2 c3 c4 c5 c6 c7 c8 c9 g1 g2
  rfl
set_option maxRecDepth 100000 in
theorem open_rec {base : Nat} {v : Value} {d : DataW H} {p : List MemPlace} (hv : Value.okWide Try.prog w .any base 24 v) (h : DataW.Trod enc Try.prog w 0 (fun _ => true) true 24 v d p) : ∃ r : Rc, v = r.val ∧ r.ok := by
  obtain ⟨fs, ht, _⟩ := rec_one
  obtain ⟨cs, rfl, _⟩ := okWide_struct ht hv
  obtain ⟨fuel, hf⟩ := h
  obtain ⟨r, hr, hok⟩ := rec_trod hf
  refine ⟨r, ?_, hok⟩
  have : cs.toList = r.cells.toList := hr
  have h2 : cs = r.cells := Array.toList_inj.1 this
  rw [h2]
  rfl
end
end Go.Proofs.Ytmobgamlednlhaa
