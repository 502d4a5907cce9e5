/-
  A frame that came in as an argument, opened.
-/
import Derived.Test.YtnncohajlmbedaaProg
import Derived.Test.YtnncohajlmbedaaOpenMore
namespace Go.Proofs.Ytnncohajlmbedaa
open Go.RowKit Go.ChangeShapes Go.WideShapes Go.Deep
section
variable {H : Type} {enc : TypeId × Value → H} {w : World}
theorem frame_one : ∃ fs, Try.prog.underlying 26 = some (.struct fs) ∧ fs.size = 2 ∧ oneCellFields Try.prog fs = true ∧ Try.prog.cellsOf 26 = fs.size ∧ (∃ f, fs[0]? = some f ∧ f.type = 5) ∧ ∃ f, fs[1]? = some f ∧ f.type = 22 :=
  ⟨_, Try.underlying26, rfl, by kernel_rfl, by kernel_rfl, ⟨_, rfl, rfl⟩, ⟨_, rfl, rfl⟩⟩
set_option maxRecDepth 100000 in
theorem frame_cells {fuel : Nat} {cs : List Value} {y : DataW H × List MemPlace} (h : DataW.trod enc Try.prog w 0 (fun _ => true) true fuel 26 cs = some y) :
    ∃ (k : UInt8) (a : Option Addr) (len cap : Nat) (xs : List UInt8), cs = [.int .u8 (k.toNat : Nat), .slice a len cap] ∧ len ≤ cap ∧ cap ≤ maxLen ∧ Rd w w.heap.size 1 a len (byts xs) := by
  obtain ⟨fs, ht, hs, hone, hC, ⟨f0, e0, t0⟩, f1, e1, t1⟩ := frame_one
  obtain ⟨hl, hf⟩ := struct_cells ht hone hC h
  rw [hs] at hl
  obtain ⟨v0, n0, y0, hc0, ht0⟩ := hf 0 f0 e0
  rw [t0] at ht0
  obtain ⟨v1, n1, y1, hc1, ht1⟩ := hf 1 f1 e1
  rw [t1] at ht1
  obtain ⟨z, hz, _, hw⟩ := DataW.trod_int Try.underlying5 ht0
  have hbz := bounds_u8 hw
  have hv0 : v0 = .int .u8 (((UInt8.ofNat z.toNat).toNat : Nat) : Int) := by
    have e : (((UInt8.ofNat z.toNat).toNat : Nat) : Int) = z := by rw [UInt8.toNat_ofNat']; omega
    rw [e]
    simpa using hz
  match cs, hl with
  | [u0, u1], _ =>
    simp at hc0 hc1
    subst hc0 hc1
    rcases open_ints Try.underlying22 Try.underlying5 (by kernel_rfl) ht1 with ⟨hcs, _⟩ | ⟨x, l, c, zs, hcs, _, hl, hm, hz, _, hcell, hwz⟩
    · simp at hcs
      subst hcs
      exact ⟨_, none, 0, 0, [], by rw [hv0], Nat.le_refl _, Nat.zero_le _, Rd.nil_ _ _ _ _⟩
    · simp at hcs
      subst hcs
      simp only [if_true] at hz
      refine ⟨_, some x, l, c, toBytes (zs.take l), by rw [hv0], hl, hm, ?_⟩
      rw [byts_toBytes (fun n hn => hwz n (List.mem_of_mem_take hn))]
      exact rd_of_ints hl hz (fun h => by cases h) (fun a' ha c hc => by cases ha; exact hcell c (by omega))
set_option maxRecDepth 100000 in
theorem open_frame {base : Nat} {v : Value} {d : DataW H} {p : List MemPlace} (hv : Value.okWide Try.prog w .any base 26 v) (h : DataW.Trod enc Try.prog w 0 (fun _ => true) true 26 v d p) :
    ∃ (k : UInt8) (a : Option Addr) (len cap : Nat) (xs : List UInt8), v = .agg #[.int .u8 (k.toNat : Nat), .slice a len cap] ∧ len ≤ cap ∧ cap ≤ maxLen ∧ Rd w w.heap.size 1 a len (byts xs) := by
  obtain ⟨fs, ht, _⟩ := frame_one
  obtain ⟨cs, rfl, _⟩ := okWide_struct ht hv
  obtain ⟨fuel, hf⟩ := h
  obtain ⟨k, a, len, cap, xs, hl, h1, h2, h3⟩ := frame_cells hf
  refine ⟨k, a, len, cap, xs, ?_, h1, h2, h3⟩
  have : cs.toList = [.int .u8 (k.toNat : Nat), .slice a len cap] := hl
  obtain ⟨cs⟩ := cs
  simp only at this
  subst this
  rfl
end
end Go.Proofs.Ytnncohajlmbedaa
