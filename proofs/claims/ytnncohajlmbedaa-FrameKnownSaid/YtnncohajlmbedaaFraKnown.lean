/-
  The walk of FrameKnown: it returns true.
-/
import Derived.Test.YtnncohajlmbedaaFraPutsAll
namespace Go.Proofs.Ytnncohajlmbedaa
open Go.RowKit
attribute [local go_sem] match_undef Oper.growAt Oper.growUpon GSpec.fix GSpec.row GSpec.wh GSpec.own GSpec.frow GSpec.fld GSpec.rowc rowFlat
attribute [local irreducible] wpList
theorem RdFr.of2 {w : World} {g B : Nat} {t : TypeId} {A1 A2 : Option Addr} {n1 c1 n2 c2 : Nat} {k1 k2 : UInt8} {l1 l2 : List UInt8} (hw : Whole w g t #[.int .u8 (k1.toNat : Nat), .slice A1 n1 c1, .int .u8 (k2.toNat : Nat), .slice A2 n2 c2]) (hg : g < B)
    (h1 : n1 ≤ c1 ∧ c1 ≤ maxLen) (r1 : Rd w B 1 A1 n1 (byts l1)) (h2 : n2 ≤ c2 ∧ c2 ≤ maxLen) (r2 : Rd w B 1 A2 n2 (byts l2)) : RdFr w B (some ⟨g, 0, none⟩) 2 [(k1, l1), (k2, l2)] := by
  have e1 := r1.blen
  have e2 := r2.blen
  subst e1 e2
  refine ⟨rfl, fun j hj => ?_⟩
  have hj2 : j = 0 ∨ j = 1 := by simp at hj; omega
  rcases hj2 with rfl | rfl
  · exact ⟨g, 0, A1, c1, rfl, hg, hw.cell 0, hw.cell 1, h1.1, h1.2, r1⟩
  · exact ⟨g, 0, A2, c2, rfl, hg, hw.cell 2, hw.cell 3, h2.1, h2.2, r2⟩
theorem RdFr.of1 {w : World} {g B : Nat} {t : TypeId} {A1 : Option Addr} {n1 c1 : Nat} {k1 : UInt8} {l1 : List UInt8} (hw : Whole w g t #[.int .u8 (k1.toNat : Nat), .slice A1 n1 c1]) (hg : g < B)
    (h1 : n1 ≤ c1 ∧ c1 ≤ maxLen) (r1 : Rd w B 1 A1 n1 (byts l1)) : RdFr w B (some ⟨g, 0, none⟩) 1 [(k1, l1)] := by
  have e1 := r1.blen
  subst e1
  refine ⟨rfl, fun j hj => ?_⟩
  obtain rfl : j = 0 := by simp at hj; omega
  exact ⟨g, 0, A1, c1, rfl, hg, hw.cell 0, hw.cell 1, h1.1, h1.2, r1⟩
theorem RdFr.of3 {w : World} {g B : Nat} {t : TypeId} {A1 A2 A3 : Option Addr} {n1 c1 n2 c2 n3 c3 : Nat} {k1 k2 k3 : UInt8} {l1 l2 l3 : List UInt8}
    (hw : Whole w g t #[.int .u8 (k1.toNat : Nat), .slice A1 n1 c1, .int .u8 (k2.toNat : Nat), .slice A2 n2 c2, .int .u8 (k3.toNat : Nat), .slice A3 n3 c3]) (hg : g < B)
    (h1 : n1 ≤ c1 ∧ c1 ≤ maxLen) (r1 : Rd w B 1 A1 n1 (byts l1)) (h2 : n2 ≤ c2 ∧ c2 ≤ maxLen) (r2 : Rd w B 1 A2 n2 (byts l2)) (h3 : n3 ≤ c3 ∧ c3 ≤ maxLen) (r3 : Rd w B 1 A3 n3 (byts l3)) : RdFr w B (some ⟨g, 0, none⟩) 3 [(k1, l1), (k2, l2), (k3, l3)] := by
  have e1 := r1.blen
  have e2 := r2.blen
  have e3 := r3.blen
  subst e1 e2 e3
  refine ⟨rfl, fun j hj => ?_⟩
  have hj2 : j = 0 ∨ j = 1 ∨ j = 2 := by simp at hj; omega
  rcases hj2 with rfl | rfl | rfl
  · exact ⟨g, 0, A1, c1, rfl, hg, hw.cell 0, hw.cell 1, h1.1, h1.2, r1⟩
  · exact ⟨g, 0, A2, c2, rfl, hg, hw.cell 2, hw.cell 3, h2.1, h2.2, r2⟩
  · exact ⟨g, 0, A3, c3, rfl, hg, hw.cell 4, hw.cell 5, h3.1, h3.2, r3⟩
theorem zbig (w : World) (t : TypeId) (n : Nat) (Z : Array Value) (hZ : zrow n = Z) : ∃ BD : List UInt8, BD.length = n ∧ Rd (w.alloc (.cells Z t)) (w.heap.size + 1) 1 (some ⟨w.heap.size, 0, none⟩) n (byts BD) := by
  refine ⟨List.replicate n 0, List.length_replicate, ?_⟩
  have h1 : Z.toList.take n = byts (List.replicate n 0) := by rw [← hZ, zrow_byts, List.take_of_length_le (by rw [byts_length, List.length_replicate]; exact Nat.le_refl _)]
  rw [← h1]
  exact Rd.of_heap (Whole.new w t Z) (Nat.lt_succ_self _) (by rw [← hZ, zrow_size]; exact Nat.le_refl _)
theorem Fra.len35 (k : UInt8) (bd : List UInt8) (h : bd.length = 65535) : (Fra.bytes k bd).length = 65543 := by
  have h1 : (Var.put 65535).length = 3 := by decide +kernel
  rw [Fra.bytes_length, Fra.head_length, h, h1]
theorem Fra.len36 (k : UInt8) (bd : List UInt8) (h : bd.length = 65536) : (Fra.bytes k bd).length = 65544 := by
  have h1 : (Var.put 65536).length = 3 := by decide +kernel
  rw [Fra.bytes_length, Fra.head_length, h, h1]
theorem Fra.one_bytes (k : UInt8) (bd : List UInt8) (h : bd.length ≤ 65535) : Fra.one (Fra.bytes k bd) = (k, bd, 0) := by
  have h1 := Fra.take_bytes [] [] k bd h
  simp only [List.nil_append, List.append_nil, List.length_nil, Nat.zero_add, Int.natCast_zero] at h1
  unfold Fra.one
  rw [h1]
  simp
theorem makeB : (Try.prog.info? 5).map (fun i => (i.zero, i.size, i.bytes)) = some (some (.int .u8 0), 1, 1) := by kernel_rfl
theorem u8_mod (n : Nat) : (((UInt8.ofNat n).toNat : Nat) : Int) = (n : Int) % 256 := by rw [UInt8.toNat_ofNat']; omega

set_option maxRecDepth 100000 in
theorem known9 (w : World) : ∃ (W : World) (g : Nat), (((((((((w.alloc (.cells #[.int .u8 1] 5)).alloc (.cells #[.int .u8 1, .int .u8 0] 5)).alloc (.cells #[.int .u8 1, .int .u8 0, .int .u8 0, .int .u8 0, .int .u8 0] 5)).alloc (.cells #[.int .u8 1, .int .u8 128] 5)).alloc (.cells #[.int .u8 1, .int .u8 128, .int .u8 0, .int .u8 1, .int .u8 1, .int .u8 1, .int .u8 1] 5)).alloc (.cells #[.int .u8 1, .int .u8 128, .int .u8 128, .int .u8 4, .int .u8 1, .int .u8 1, .int .u8 1, .int .u8 1] 5)).alloc (.cells #[.int .u8 1, .int .u8 255, .int .u8 255, .int .u8 3, .int .u8 1, .int .u8 1, .int .u8 1, .int .u8 1] 5)).alloc (.cells #[.int .u8 0, .int .u8 0, .int .u8 0, .int .u8 0, .int .u8 0, .int .u8 0] 5)).alloc (.cells #[.slice none 0 0, .slice (some ⟨w.heap.size, 0, none⟩) 1 1, .slice (some ⟨w.heap.size + 1, 0, none⟩) 2 2, .slice (some ⟨w.heap.size + 1 + 1, 0, none⟩) 5 5, .slice (some ⟨w.heap.size + 1 + 1 + 1, 0, none⟩) 2 2, .slice (some ⟨w.heap.size + 1 + 1 + 1 + 1, 0, none⟩) 7 7, .slice (some ⟨w.heap.size + 1 + 1 + 1 + 1 + 1, 0, none⟩) 8 8, .slice (some ⟨w.heap.size + 1 + 1 + 1 + 1 + 1 + 1, 0, none⟩) 8 8, .slice (some ⟨w.heap.size + 1 + 1 + 1 + 1 + 1 + 1 + 1, 0, none⟩) 6 6] 22)) = W ∧ w.heap.size + 1 + 1 + 1 + 1 + 1 + 1 + 1 + 1 = g ∧ RdRows W W.heap.size (some ⟨g, 0, none⟩) 9 [[], [1], [1, 0], [1, 0, 0, 0, 0], [1, 128], [1, 128, 0, 1, 1, 1, 1], [1, 128, 128, 4, 1, 1, 1, 1], [1, 255, 255, 3, 1, 1, 1, 1], [0, 0, 0, 0, 0, 0]] ∧ Below w.heap.size w W := by
  obtain ⟨w1, h1⟩ : ∃ v, w.alloc (.cells #[.int .u8 1] 5) = v := ⟨_, rfl⟩
  have z1 : w1.heap.size = w.heap.size + 1 := by rw [← h1, World.size_alloc]
  have b1 : Below w.heap.size w w1 := by rw [← h1]; exact (Below.refl _ _).alloc (by omega) _
  have r1 := Rd.newb w 5 [1] #[.int .u8 1] 1 rfl rfl
  rw [h1] at r1
  obtain ⟨w2, h2⟩ : ∃ v, w1.alloc (.cells #[.int .u8 1, .int .u8 0] 5) = v := ⟨_, rfl⟩
  have z2 : w2.heap.size = w.heap.size + 1 + 1 := by rw [← h2, World.size_alloc, z1]
  have b2 : Below w.heap.size w w2 := by rw [← h2]; exact b1.alloc (by omega) _
  replace r1 := r1.alloc (by omega) (.cells #[.int .u8 1, .int .u8 0] 5)
  rw [h2] at r1
  have r2 := Rd.newb w1 5 [1, 0] #[.int .u8 1, .int .u8 0] 2 rfl rfl
  rw [h2] at r2
  rw [z1] at r2
  obtain ⟨w3, h3⟩ : ∃ v, w2.alloc (.cells #[.int .u8 1, .int .u8 0, .int .u8 0, .int .u8 0, .int .u8 0] 5) = v := ⟨_, rfl⟩
  have z3 : w3.heap.size = w.heap.size + 1 + 1 + 1 := by rw [← h3, World.size_alloc, z2]
  have b3 : Below w.heap.size w w3 := by rw [← h3]; exact b2.alloc (by omega) _
  replace r1 := r1.alloc (by omega) (.cells #[.int .u8 1, .int .u8 0, .int .u8 0, .int .u8 0, .int .u8 0] 5)
  rw [h3] at r1
  replace r2 := r2.alloc (by omega) (.cells #[.int .u8 1, .int .u8 0, .int .u8 0, .int .u8 0, .int .u8 0] 5)
  rw [h3] at r2
  have r3 := Rd.newb w2 5 [1, 0, 0, 0, 0] #[.int .u8 1, .int .u8 0, .int .u8 0, .int .u8 0, .int .u8 0] 5 rfl rfl
  rw [h3] at r3
  rw [z2] at r3
  obtain ⟨w4, h4⟩ : ∃ v, w3.alloc (.cells #[.int .u8 1, .int .u8 128] 5) = v := ⟨_, rfl⟩
  have z4 : w4.heap.size = w.heap.size + 1 + 1 + 1 + 1 := by rw [← h4, World.size_alloc, z3]
  have b4 : Below w.heap.size w w4 := by rw [← h4]; exact b3.alloc (by omega) _
  replace r1 := r1.alloc (by omega) (.cells #[.int .u8 1, .int .u8 128] 5)
  rw [h4] at r1
  replace r2 := r2.alloc (by omega) (.cells #[.int .u8 1, .int .u8 128] 5)
  rw [h4] at r2
  replace r3 := r3.alloc (by omega) (.cells #[.int .u8 1, .int .u8 128] 5)
  rw [h4] at r3
  have r4 := Rd.newb w3 5 [1, 128] #[.int .u8 1, .int .u8 128] 2 rfl rfl
  rw [h4] at r4
  rw [z3] at r4
  obtain ⟨w5, h5⟩ : ∃ v, w4.alloc (.cells #[.int .u8 1, .int .u8 128, .int .u8 0, .int .u8 1, .int .u8 1, .int .u8 1, .int .u8 1] 5) = v := ⟨_, rfl⟩
  have z5 : w5.heap.size = w.heap.size + 1 + 1 + 1 + 1 + 1 := by rw [← h5, World.size_alloc, z4]
  have b5 : Below w.heap.size w w5 := by rw [← h5]; exact b4.alloc (by omega) _
  replace r1 := r1.alloc (by omega) (.cells #[.int .u8 1, .int .u8 128, .int .u8 0, .int .u8 1, .int .u8 1, .int .u8 1, .int .u8 1] 5)
  rw [h5] at r1
  replace r2 := r2.alloc (by omega) (.cells #[.int .u8 1, .int .u8 128, .int .u8 0, .int .u8 1, .int .u8 1, .int .u8 1, .int .u8 1] 5)
  rw [h5] at r2
  replace r3 := r3.alloc (by omega) (.cells #[.int .u8 1, .int .u8 128, .int .u8 0, .int .u8 1, .int .u8 1, .int .u8 1, .int .u8 1] 5)
  rw [h5] at r3
  replace r4 := r4.alloc (by omega) (.cells #[.int .u8 1, .int .u8 128, .int .u8 0, .int .u8 1, .int .u8 1, .int .u8 1, .int .u8 1] 5)
  rw [h5] at r4
  have r5 := Rd.newb w4 5 [1, 128, 0, 1, 1, 1, 1] #[.int .u8 1, .int .u8 128, .int .u8 0, .int .u8 1, .int .u8 1, .int .u8 1, .int .u8 1] 7 rfl rfl
  rw [h5] at r5
  rw [z4] at r5
  obtain ⟨w6, h6⟩ : ∃ v, w5.alloc (.cells #[.int .u8 1, .int .u8 128, .int .u8 128, .int .u8 4, .int .u8 1, .int .u8 1, .int .u8 1, .int .u8 1] 5) = v := ⟨_, rfl⟩
  have z6 : w6.heap.size = w.heap.size + 1 + 1 + 1 + 1 + 1 + 1 := by rw [← h6, World.size_alloc, z5]
  have b6 : Below w.heap.size w w6 := by rw [← h6]; exact b5.alloc (by omega) _
  replace r1 := r1.alloc (by omega) (.cells #[.int .u8 1, .int .u8 128, .int .u8 128, .int .u8 4, .int .u8 1, .int .u8 1, .int .u8 1, .int .u8 1] 5)
  rw [h6] at r1
  replace r2 := r2.alloc (by omega) (.cells #[.int .u8 1, .int .u8 128, .int .u8 128, .int .u8 4, .int .u8 1, .int .u8 1, .int .u8 1, .int .u8 1] 5)
  rw [h6] at r2
  replace r3 := r3.alloc (by omega) (.cells #[.int .u8 1, .int .u8 128, .int .u8 128, .int .u8 4, .int .u8 1, .int .u8 1, .int .u8 1, .int .u8 1] 5)
  rw [h6] at r3
  replace r4 := r4.alloc (by omega) (.cells #[.int .u8 1, .int .u8 128, .int .u8 128, .int .u8 4, .int .u8 1, .int .u8 1, .int .u8 1, .int .u8 1] 5)
  rw [h6] at r4
  replace r5 := r5.alloc (by omega) (.cells #[.int .u8 1, .int .u8 128, .int .u8 128, .int .u8 4, .int .u8 1, .int .u8 1, .int .u8 1, .int .u8 1] 5)
  rw [h6] at r5
  have r6 := Rd.newb w5 5 [1, 128, 128, 4, 1, 1, 1, 1] #[.int .u8 1, .int .u8 128, .int .u8 128, .int .u8 4, .int .u8 1, .int .u8 1, .int .u8 1, .int .u8 1] 8 rfl rfl
  rw [h6] at r6
  rw [z5] at r6
  obtain ⟨w7, h7⟩ : ∃ v, w6.alloc (.cells #[.int .u8 1, .int .u8 255, .int .u8 255, .int .u8 3, .int .u8 1, .int .u8 1, .int .u8 1, .int .u8 1] 5) = v := ⟨_, rfl⟩
  have z7 : w7.heap.size = w.heap.size + 1 + 1 + 1 + 1 + 1 + 1 + 1 := by rw [← h7, World.size_alloc, z6]
  have b7 : Below w.heap.size w w7 := by rw [← h7]; exact b6.alloc (by omega) _
  replace r1 := r1.alloc (by omega) (.cells #[.int .u8 1, .int .u8 255, .int .u8 255, .int .u8 3, .int .u8 1, .int .u8 1, .int .u8 1, .int .u8 1] 5)
  rw [h7] at r1
  replace r2 := r2.alloc (by omega) (.cells #[.int .u8 1, .int .u8 255, .int .u8 255, .int .u8 3, .int .u8 1, .int .u8 1, .int .u8 1, .int .u8 1] 5)
  rw [h7] at r2
  replace r3 := r3.alloc (by omega) (.cells #[.int .u8 1, .int .u8 255, .int .u8 255, .int .u8 3, .int .u8 1, .int .u8 1, .int .u8 1, .int .u8 1] 5)
  rw [h7] at r3
  replace r4 := r4.alloc (by omega) (.cells #[.int .u8 1, .int .u8 255, .int .u8 255, .int .u8 3, .int .u8 1, .int .u8 1, .int .u8 1, .int .u8 1] 5)
  rw [h7] at r4
  replace r5 := r5.alloc (by omega) (.cells #[.int .u8 1, .int .u8 255, .int .u8 255, .int .u8 3, .int .u8 1, .int .u8 1, .int .u8 1, .int .u8 1] 5)
  rw [h7] at r5
  replace r6 := r6.alloc (by omega) (.cells #[.int .u8 1, .int .u8 255, .int .u8 255, .int .u8 3, .int .u8 1, .int .u8 1, .int .u8 1, .int .u8 1] 5)
  rw [h7] at r6
  have r7 := Rd.newb w6 5 [1, 255, 255, 3, 1, 1, 1, 1] #[.int .u8 1, .int .u8 255, .int .u8 255, .int .u8 3, .int .u8 1, .int .u8 1, .int .u8 1, .int .u8 1] 8 rfl rfl
  rw [h7] at r7
  rw [z6] at r7
  obtain ⟨w8, h8⟩ : ∃ v, w7.alloc (.cells #[.int .u8 0, .int .u8 0, .int .u8 0, .int .u8 0, .int .u8 0, .int .u8 0] 5) = v := ⟨_, rfl⟩
  have z8 : w8.heap.size = w.heap.size + 1 + 1 + 1 + 1 + 1 + 1 + 1 + 1 := by rw [← h8, World.size_alloc, z7]
  have b8 : Below w.heap.size w w8 := by rw [← h8]; exact b7.alloc (by omega) _
  replace r1 := r1.alloc (by omega) (.cells #[.int .u8 0, .int .u8 0, .int .u8 0, .int .u8 0, .int .u8 0, .int .u8 0] 5)
  rw [h8] at r1
  replace r2 := r2.alloc (by omega) (.cells #[.int .u8 0, .int .u8 0, .int .u8 0, .int .u8 0, .int .u8 0, .int .u8 0] 5)
  rw [h8] at r2
  replace r3 := r3.alloc (by omega) (.cells #[.int .u8 0, .int .u8 0, .int .u8 0, .int .u8 0, .int .u8 0, .int .u8 0] 5)
  rw [h8] at r3
  replace r4 := r4.alloc (by omega) (.cells #[.int .u8 0, .int .u8 0, .int .u8 0, .int .u8 0, .int .u8 0, .int .u8 0] 5)
  rw [h8] at r4
  replace r5 := r5.alloc (by omega) (.cells #[.int .u8 0, .int .u8 0, .int .u8 0, .int .u8 0, .int .u8 0, .int .u8 0] 5)
  rw [h8] at r5
  replace r6 := r6.alloc (by omega) (.cells #[.int .u8 0, .int .u8 0, .int .u8 0, .int .u8 0, .int .u8 0, .int .u8 0] 5)
  rw [h8] at r6
  replace r7 := r7.alloc (by omega) (.cells #[.int .u8 0, .int .u8 0, .int .u8 0, .int .u8 0, .int .u8 0, .int .u8 0] 5)
  rw [h8] at r7
  have r8 := Rd.newb w7 5 [0, 0, 0, 0, 0, 0] #[.int .u8 0, .int .u8 0, .int .u8 0, .int .u8 0, .int .u8 0, .int .u8 0] 6 rfl rfl
  rw [h8] at r8
  rw [z7] at r8
  obtain ⟨w9, h9⟩ : ∃ v, w8.alloc (.cells #[.slice none 0 0, .slice (some ⟨w.heap.size, 0, none⟩) 1 1, .slice (some ⟨w.heap.size + 1, 0, none⟩) 2 2, .slice (some ⟨w.heap.size + 1 + 1, 0, none⟩) 5 5, .slice (some ⟨w.heap.size + 1 + 1 + 1, 0, none⟩) 2 2, .slice (some ⟨w.heap.size + 1 + 1 + 1 + 1, 0, none⟩) 7 7, .slice (some ⟨w.heap.size + 1 + 1 + 1 + 1 + 1, 0, none⟩) 8 8, .slice (some ⟨w.heap.size + 1 + 1 + 1 + 1 + 1 + 1, 0, none⟩) 8 8, .slice (some ⟨w.heap.size + 1 + 1 + 1 + 1 + 1 + 1 + 1, 0, none⟩) 6 6] 22) = v := ⟨_, rfl⟩
  have z9 : w9.heap.size = w.heap.size + 1 + 1 + 1 + 1 + 1 + 1 + 1 + 1 + 1 := by rw [← h9, World.size_alloc, z8]
  have b9 : Below w.heap.size w w9 := by rw [← h9]; exact b8.alloc (by omega) _
  replace r1 := r1.alloc (by omega) (.cells #[.slice none 0 0, .slice (some ⟨w.heap.size, 0, none⟩) 1 1, .slice (some ⟨w.heap.size + 1, 0, none⟩) 2 2, .slice (some ⟨w.heap.size + 1 + 1, 0, none⟩) 5 5, .slice (some ⟨w.heap.size + 1 + 1 + 1, 0, none⟩) 2 2, .slice (some ⟨w.heap.size + 1 + 1 + 1 + 1, 0, none⟩) 7 7, .slice (some ⟨w.heap.size + 1 + 1 + 1 + 1 + 1, 0, none⟩) 8 8, .slice (some ⟨w.heap.size + 1 + 1 + 1 + 1 + 1 + 1, 0, none⟩) 8 8, .slice (some ⟨w.heap.size + 1 + 1 + 1 + 1 + 1 + 1 + 1, 0, none⟩) 6 6] 22)
  rw [h9] at r1
  replace r2 := r2.alloc (by omega) (.cells #[.slice none 0 0, .slice (some ⟨w.heap.size, 0, none⟩) 1 1, .slice (some ⟨w.heap.size + 1, 0, none⟩) 2 2, .slice (some ⟨w.heap.size + 1 + 1, 0, none⟩) 5 5, .slice (some ⟨w.heap.size + 1 + 1 + 1, 0, none⟩) 2 2, .slice (some ⟨w.heap.size + 1 + 1 + 1 + 1, 0, none⟩) 7 7, .slice (some ⟨w.heap.size + 1 + 1 + 1 + 1 + 1, 0, none⟩) 8 8, .slice (some ⟨w.heap.size + 1 + 1 + 1 + 1 + 1 + 1, 0, none⟩) 8 8, .slice (some ⟨w.heap.size + 1 + 1 + 1 + 1 + 1 + 1 + 1, 0, none⟩) 6 6] 22)
  rw [h9] at r2
  replace r3 := r3.alloc (by omega) (.cells #[.slice none 0 0, .slice (some ⟨w.heap.size, 0, none⟩) 1 1, .slice (some ⟨w.heap.size + 1, 0, none⟩) 2 2, .slice (some ⟨w.heap.size + 1 + 1, 0, none⟩) 5 5, .slice (some ⟨w.heap.size + 1 + 1 + 1, 0, none⟩) 2 2, .slice (some ⟨w.heap.size + 1 + 1 + 1 + 1, 0, none⟩) 7 7, .slice (some ⟨w.heap.size + 1 + 1 + 1 + 1 + 1, 0, none⟩) 8 8, .slice (some ⟨w.heap.size + 1 + 1 + 1 + 1 + 1 + 1, 0, none⟩) 8 8, .slice (some ⟨w.heap.size + 1 + 1 + 1 + 1 + 1 + 1 + 1, 0, none⟩) 6 6] 22)
  rw [h9] at r3
  replace r4 := r4.alloc (by omega) (.cells #[.slice none 0 0, .slice (some ⟨w.heap.size, 0, none⟩) 1 1, .slice (some ⟨w.heap.size + 1, 0, none⟩) 2 2, .slice (some ⟨w.heap.size + 1 + 1, 0, none⟩) 5 5, .slice (some ⟨w.heap.size + 1 + 1 + 1, 0, none⟩) 2 2, .slice (some ⟨w.heap.size + 1 + 1 + 1 + 1, 0, none⟩) 7 7, .slice (some ⟨w.heap.size + 1 + 1 + 1 + 1 + 1, 0, none⟩) 8 8, .slice (some ⟨w.heap.size + 1 + 1 + 1 + 1 + 1 + 1, 0, none⟩) 8 8, .slice (some ⟨w.heap.size + 1 + 1 + 1 + 1 + 1 + 1 + 1, 0, none⟩) 6 6] 22)
  rw [h9] at r4
  replace r5 := r5.alloc (by omega) (.cells #[.slice none 0 0, .slice (some ⟨w.heap.size, 0, none⟩) 1 1, .slice (some ⟨w.heap.size + 1, 0, none⟩) 2 2, .slice (some ⟨w.heap.size + 1 + 1, 0, none⟩) 5 5, .slice (some ⟨w.heap.size + 1 + 1 + 1, 0, none⟩) 2 2, .slice (some ⟨w.heap.size + 1 + 1 + 1 + 1, 0, none⟩) 7 7, .slice (some ⟨w.heap.size + 1 + 1 + 1 + 1 + 1, 0, none⟩) 8 8, .slice (some ⟨w.heap.size + 1 + 1 + 1 + 1 + 1 + 1, 0, none⟩) 8 8, .slice (some ⟨w.heap.size + 1 + 1 + 1 + 1 + 1 + 1 + 1, 0, none⟩) 6 6] 22)
  rw [h9] at r5
  replace r6 := r6.alloc (by omega) (.cells #[.slice none 0 0, .slice (some ⟨w.heap.size, 0, none⟩) 1 1, .slice (some ⟨w.heap.size + 1, 0, none⟩) 2 2, .slice (some ⟨w.heap.size + 1 + 1, 0, none⟩) 5 5, .slice (some ⟨w.heap.size + 1 + 1 + 1, 0, none⟩) 2 2, .slice (some ⟨w.heap.size + 1 + 1 + 1 + 1, 0, none⟩) 7 7, .slice (some ⟨w.heap.size + 1 + 1 + 1 + 1 + 1, 0, none⟩) 8 8, .slice (some ⟨w.heap.size + 1 + 1 + 1 + 1 + 1 + 1, 0, none⟩) 8 8, .slice (some ⟨w.heap.size + 1 + 1 + 1 + 1 + 1 + 1 + 1, 0, none⟩) 6 6] 22)
  rw [h9] at r6
  replace r7 := r7.alloc (by omega) (.cells #[.slice none 0 0, .slice (some ⟨w.heap.size, 0, none⟩) 1 1, .slice (some ⟨w.heap.size + 1, 0, none⟩) 2 2, .slice (some ⟨w.heap.size + 1 + 1, 0, none⟩) 5 5, .slice (some ⟨w.heap.size + 1 + 1 + 1, 0, none⟩) 2 2, .slice (some ⟨w.heap.size + 1 + 1 + 1 + 1, 0, none⟩) 7 7, .slice (some ⟨w.heap.size + 1 + 1 + 1 + 1 + 1, 0, none⟩) 8 8, .slice (some ⟨w.heap.size + 1 + 1 + 1 + 1 + 1 + 1, 0, none⟩) 8 8, .slice (some ⟨w.heap.size + 1 + 1 + 1 + 1 + 1 + 1 + 1, 0, none⟩) 6 6] 22)
  rw [h9] at r7
  replace r8 := r8.alloc (by omega) (.cells #[.slice none 0 0, .slice (some ⟨w.heap.size, 0, none⟩) 1 1, .slice (some ⟨w.heap.size + 1, 0, none⟩) 2 2, .slice (some ⟨w.heap.size + 1 + 1, 0, none⟩) 5 5, .slice (some ⟨w.heap.size + 1 + 1 + 1, 0, none⟩) 2 2, .slice (some ⟨w.heap.size + 1 + 1 + 1 + 1, 0, none⟩) 7 7, .slice (some ⟨w.heap.size + 1 + 1 + 1 + 1 + 1, 0, none⟩) 8 8, .slice (some ⟨w.heap.size + 1 + 1 + 1 + 1 + 1 + 1, 0, none⟩) 8 8, .slice (some ⟨w.heap.size + 1 + 1 + 1 + 1 + 1 + 1 + 1, 0, none⟩) 6 6] 22)
  rw [h9] at r8
  have kw := Whole.new w8 22 #[.slice none 0 0, .slice (some ⟨w.heap.size, 0, none⟩) 1 1, .slice (some ⟨w.heap.size + 1, 0, none⟩) 2 2, .slice (some ⟨w.heap.size + 1 + 1, 0, none⟩) 5 5, .slice (some ⟨w.heap.size + 1 + 1 + 1, 0, none⟩) 2 2, .slice (some ⟨w.heap.size + 1 + 1 + 1 + 1, 0, none⟩) 7 7, .slice (some ⟨w.heap.size + 1 + 1 + 1 + 1 + 1, 0, none⟩) 8 8, .slice (some ⟨w.heap.size + 1 + 1 + 1 + 1 + 1 + 1, 0, none⟩) 8 8, .slice (some ⟨w.heap.size + 1 + 1 + 1 + 1 + 1 + 1 + 1, 0, none⟩) 6 6]
  rw [h9, z8] at kw
  refine ⟨w9, _, by rw [h1, h2, h3, h4, h5, h6, h7, h8, h9], rfl, ⟨rfl, fun k hk => ?_⟩, b9⟩
  have h9 : k = 0 ∨ k = 1 ∨ k = 2 ∨ k = 3 ∨ k = 4 ∨ k = 5 ∨ k = 6 ∨ k = 7 ∨ k = 8 := by omega
  clear h1 h2 h3 h4 h5 h6 h7 h8
  rcases h9 with rfl | rfl | rfl | rfl | rfl | rfl | rfl | rfl | rfl
  · exact ⟨_, 0, none, 0, 0, rfl, by omega, kw.cell 0, Nat.le_refl _, Nat.zero_le _, Rd.nil_ _ _ _ _⟩
  · exact ⟨_, 0, _, 1, 1, rfl, by omega, kw.cell 1, Nat.le_refl _, by unfold maxLen; omega, r1.more (by omega)⟩
  · exact ⟨_, 0, _, 2, 2, rfl, by omega, kw.cell 2, Nat.le_refl _, by unfold maxLen; omega, r2.more (by omega)⟩
  · exact ⟨_, 0, _, 5, 5, rfl, by omega, kw.cell 3, Nat.le_refl _, by unfold maxLen; omega, r3.more (by omega)⟩
  · exact ⟨_, 0, _, 2, 2, rfl, by omega, kw.cell 4, Nat.le_refl _, by unfold maxLen; omega, r4.more (by omega)⟩
  · exact ⟨_, 0, _, 7, 7, rfl, by omega, kw.cell 5, Nat.le_refl _, by unfold maxLen; omega, r5.more (by omega)⟩
  · exact ⟨_, 0, _, 8, 8, rfl, by omega, kw.cell 6, Nat.le_refl _, by unfold maxLen; omega, r6.more (by omega)⟩
  · exact ⟨_, 0, _, 8, 8, rfl, by omega, kw.cell 7, Nat.le_refl _, by unfold maxLen; omega, r7.more (by omega)⟩
  · exact ⟨_, 0, _, 6, 6, rfl, by omega, kw.cell 8, Nat.le_refl _, by unfold maxLen; omega, r8.more (by omega)⟩

set_option maxRecDepth 100000 in
set_option maxHeartbeats 20000000 in
theorem frameKnown_any (w : World) :
    Calls Try.prog 7 #[] w fun en w' => en = .returned (.bool true) ∧ Below w.heap.size w w' := by
  have hb : Below w.heap.size w w := Below.refl _ _
  go_enter Try.func7, Try.ntmps7
  go_wp2_with fail
  go_loopw [1] (fun n wr => ∃ k : Nat, k ≤ 160 ∧ n = .int .i64 k ∧ Below w.heap.size w wr) (fun n _ => 200 - (intOf n).toNat)
  case atStart => exact ⟨0, by omega, rfl, hb⟩
  case round =>
    clear hb
    obtain ⟨n, hn, rfl, hb⟩ := hrel
    by_cases hlt : n < 140
    · have d : decide ((n : Int) < 140) = true := by simp; omega
      obtain ⟨kk, hkk⟩ : ∃ kk, UInt8.ofNat (n * 7) = kk := ⟨_, rfl⟩
      have ek : ((n : Int) * 7) % 256 = ((kk.toNat : Nat) : Int) := by rw [← hkk, u8_mod]; push_cast; rfl
      clear hkk
      go_wp2_with fail
      obtain ⟨g, hgg⟩ : ∃ g, wr.heap.size = g := ⟨_, rfl⟩
      have kn := Whole.new wr 26 #[.int .u8 (kk.toNat : Nat), .slice none 0 0]
      have hbn := below1 wr (.cells #[.int .u8 (kk.toNat : Nat), .slice none 0 0] 26)
      have HB1 := Lib.hid (hb.trans (hbn.mono hb.size))
      have HGW := Lib.hid (show w.heap.size ≤ g by rw [← hgg]; exact hb.size)
      rw [hgg] at kn ⊢
      have KG := Lib.hid kn
      clear kn hgg hbn hb ek
      generalize World.alloc wr (.cells #[.int .u8 (kk.toNat : Nat), .slice none 0 0] 26) = w1 at *
      obtain ⟨G, hG⟩ : ∃ G, w1.heap.size = G := ⟨_, rfl⟩
      have HG := Lib.hid hG
      have HGG := Lib.hid (show g < G by rw [← hG]; exact KG.out.lt)
      clear hG
      go_loopw [3] (fun i wr => ∃ (j : Nat) (D : Option Addr) (c : Nat) (xs : List UInt8), j ≤ n ∧ i = .int .i64 j ∧ Hid (Whole wr g 26 #[.int .u8 (kk.toNat : Nat), .slice D j c]) ∧ Hid (wr.ownsRow G 5 1 (.slice D j c) j (byts xs)) ∧ Below w.heap.size w wr ∧ G ≤ wr.heap.size) (fun i _ => n - (intOf i).toNat)
      case atStart => exact ⟨0, none, 0, [], by omega, rfl, KG, World.ownsRow_nil _ _ _ _, HB1.out, by rw [HG.out]; exact Nat.le_refl _⟩
      case round =>
        clear KG HB1 HG
        obtain ⟨j, D, c, xs, hj, rfl, KB, HO, hb, hz⟩ := hrel
        by_cases hlj : j < n
        · have dj : decide ((j : Int) < (n : Int)) = true := by simp; omega
          obtain ⟨y, hy⟩ : ∃ y, UInt8.ofNat (j * n) = y := ⟨_, rfl⟩
          have ey : ((j : Int) * (n : Int)) % 256 = ((y.toNat : Nat) : Int) := by rw [← hy, u8_mod]; push_cast; rfl
          have hjn : j * n ≤ 22400 := Nat.mul_le_mul (show j ≤ 140 by omega) hn
          have ew : IntKind.i64.wrap ((j : Int) * (n : Int)) = (j : Int) * (n : Int) := by
            have h1 : (j : Int) * (n : Int) = ((j * n : Nat) : Int) := by push_cast; rfl
            rw [h1, IntKind.wrap_i64]
            omega
          have hc0 := KB.out.cell 0
          have hc1 := KB.out.cell 1
          have hlg := KB.out.lt
          simp at hc0 hc1
          have HN := Lib.hid (Rd.newb wr 5 [y] #[.int .u8 (y.toNat : Nat)] 1 rfl rfl)
          have hz2 : G ≤ (wr.alloc (.cells #[.int .u8 (y.toNat : Nat)] 5)).heap.size := by simp; omega
          clear hy hjn
          go_wp2_with (at_builtin; refine wpList_append_rd _ rfl (.tmp 30) (.tmp 35) _ rfl bytesV G _ j _ rfl (HO.out.alloc _) _ (some ⟨wr.heap.size, 0, none⟩) 1 1 _ rfl HN.out (byts_one _) (by unfold maxLen; omega) (by omega) hz2 ?_; intro D6 c6 w6 ho6 hb6 _ _; have kx := (KB.out.alloc (.cells #[.int .u8 (y.toNat : Nat)] 5)).below hb6 HGG.out; have hb7 := (hb.alloc hb.size (.cells #[.int .u8 (y.toNat : Nat)] 5)).trans (hb6.mono (Nat.le_trans HGW.out (Nat.le_of_lt HGG.out))); have hz6 := Nat.le_trans hz2 hb6.size; rw [← byts_append] at ho6; have hx1 := kx.cell 1; have hf1 := kx.frozen 1; have hl1 := kx.lt; simp at hx1; have HO6 := Lib.hid ho6; have KX := Lib.hid kx; clear ho6 kx hb6)
          refine ⟨⟨j + 1, D6, c6, xs ++ [y], by omega, by go_num, Lib.hid ?_, Lib.hid ?_, ?_, ?_⟩, by simp [intOf]; omega⟩
          · exact KX.out.put_ 1 _
          · exact own_far HO6.out (fun b hb => by have := (own_lt HO6.out b hb).1; have := HGG.out; simp only; omega) _
          · exact hb7.setCell (by exact HGW.out) _
          · simp; exact hz6
        · obtain rfl : n = j := by omega
          have dj : decide ((n : Int) < (n : Int)) = false := by simp
          go_wp2_with fail
          have e5 : IntKind.i64.wrap ((n : Int) * 5) = (n : Int) * 5 := by rw [IntKind.wrap_i64]; omega
          have e11 : IntKind.i64.wrap ((n : Int) * 11) = (n : Int) * 11 := by rw [IntKind.wrap_i64]; omega
          obtain ⟨hf, hhf, hfn⟩ : ∃ hf, n / 2 = hf ∧ hf ≤ n := ⟨_, rfl, by omega⟩
          have e2 : IntKind.i64.wrap ((n : Int) / 2) = (hf : Int) := by
            have : (n : Int) / 2 = (hf : Int) := by rw [← hhf]; rfl
            rw [this, IntKind.wrap_i64]
            omega
          clear hhf
          have hc2 := own_cap HO.out
          have f0 : (0 : Int) ≤ (hf : Int) := by omega
          have f1 : (hf : Int) ≤ (c : Int) := by omega
          refine wp_region_grow (fun k' => List.lookup k' [(0, .fix (.agg #[.int .u8 (kk.toNat : Nat), .slice D n c])), (2, .rowc 26 2), (3, .fix (.bool true)), (6, .fix (.agg #[.int .u8 (kk.toNat : Nat), .slice D n c])), (8, .fix (.agg #[.int .u8 (kk.toNat : Nat), .slice D n c])), (9, .rowc 26 3), (11, .fix (.slice D n c)), (17, .fix (.bool true)), (21, .fix (.agg #[.int .u8 (kk.toNat : Nat), .slice D n c])), (24, .fix (.bool true))]) (by as_aux_lemma => kernel_rfl) (by as_aux_lemma => kernel_rfl) ?_
          repeat (refine wpGrow_pure rfl (fun K hK => ?_); go_simp; refine hK.out _ ?_; clear hK K)
          refine wpGrow_eff _ rfl (fun wx he hcl => ?_) (fun _ K hK => ?_) rfl
          · clear hcl
            have kk2 := KB.out.below he KB.out.lt
            have hq0 := kk2.cell 0
            have hq1 := kk2.cell 1
            simp at hq0 hq1
            go_simp
            exact Below.refl _ _
          go_simp
          refine hK.out _ ?_
          clear hK K
          repeat (refine wpGrow_pure rfl (fun K hK => ?_); go_simp; refine hK.out _ ?_; clear hK K)
          refine wpGrow_eff _ rfl (fun wx he hcl => ?_) (fun (g40 : Nat) K hK => ?_) rfl
          · clear hcl
            go_simp
            exact ⟨Whole.new _ _ _, (Below.refl _ _).alloc (Nat.le_refl _) _⟩
          go_simp
          refine hK.out _ ?_
          clear hK K
          repeat (refine wpGrow_pure rfl (fun K hK => ?_); go_simp; refine hK.out _ ?_; clear hK K)
          refine wpGrow_eff _ rfl (fun wx he hcl => ?_) (fun _ K hK => ?_) rfl
          · have hx : Whole wx g40 26 #[.int .u8 (kk.toNat : Nat), .slice D n c, .int .u8 (((1 : UInt8)).toNat : Nat), .slice none 0 0] := hcl.out 2 rfl
            clear hcl
            have hro := own_ext HO.out he
            have hrd := Rd.of_own hro
            have hcp := own_cap hro
            have hcon := framePuts_any wx (some ⟨g40, 0, none⟩) 2 2 [(kk, xs), (1, [])] (RdFr.of2 (l2 := []) hx hx.lt hcp hrd ⟨Nat.le_refl _, Nat.zero_le _⟩ (Rd.nil_ _ _ _ _)) (by omega) (by intro f hf; simp at hf; have := hrd.blen; rcases hf with rfl | rfl <;> simp <;> omega)
            clear hro hrd hcp hx
            go_simp
            all_goals exact hcon
          go_simp
          refine hK.out _ ?_
          clear hK K
          repeat (refine wpGrow_pure rfl (fun K hK => ?_); go_simp; refine hK.out _ ?_; clear hK K)
          refine wpGrow_eff _ rfl (fun wx he hcl => ?_) (fun _ K hK => ?_) rfl
          · clear hcl
            have kk2 := KB.out.below he KB.out.lt
            have hq0 := kk2.cell 0
            have hq1 := kk2.cell 1
            simp at hq0 hq1
            go_simp
            exact Below.refl _ _
          go_simp
          refine hK.out _ ?_
          clear hK K
          repeat (refine wpGrow_pure rfl (fun K hK => ?_); go_simp; refine hK.out _ ?_; clear hK K)
          refine wpGrow_eff _ rfl (fun wx he hcl => ?_) (fun _ K hK => ?_) rfl
          · clear hcl
            have kk2 := KB.out.below he KB.out.lt
            have hq0 := kk2.cell 0
            have hq1 := kk2.cell 1
            simp at hq0 hq1
            go_simp
            exact Below.refl _ _
          go_simp
          refine hK.out _ ?_
          clear hK K
          repeat (refine wpGrow_pure rfl (fun K hK => ?_); go_simp; refine hK.out _ ?_; clear hK K)
          refine wpGrow_eff _ rfl (fun wx he hcl => ?_) (fun (g47 : Nat) K hK => ?_) rfl
          · clear hcl
            go_simp
            exact ⟨Whole.new _ _ _, (Below.refl _ _).alloc (Nat.le_refl _) _⟩
          go_simp
          refine hK.out _ ?_
          clear hK K
          repeat (refine wpGrow_pure rfl (fun K hK => ?_); go_simp; refine hK.out _ ?_; clear hK K)
          refine wpGrow_eff _ rfl (fun wx he hcl => ?_) (fun _ K hK => ?_) rfl
          · clear hcl
            have kk2 := KB.out.below he KB.out.lt
            have hq0 := kk2.cell 0
            have hq1 := kk2.cell 1
            simp at hq0 hq1
            go_simp
            exact Below.refl _ _
          go_simp
          refine hK.out _ ?_
          clear hK K
          repeat (refine wpGrow_pure rfl (fun K hK => ?_); go_simp; refine hK.out _ ?_; clear hK K)
          refine wpGrow_eff _ rfl (fun wx he hcl => ?_) (fun _ K hK => ?_) rfl
          · have hx : Whole wx g47 26 #[.int .u8 (kk.toNat : Nat), .slice D n c, .int .u8 (((0 : UInt8)).toNat : Nat), .slice none 0 0, .int .u8 (kk.toNat : Nat), .slice D n c] := hcl.out 9 rfl
            clear hcl
            have hro := own_ext HO.out he
            have hrd := Rd.of_own hro
            have hcp := own_cap hro
            have hcon := frameBack_any wx (some ⟨g47, 0, none⟩) 3 3 [(kk, xs), (0, []), (kk, xs)] (RdFr.of3 (l2 := []) hx hx.lt hcp hrd ⟨Nat.le_refl _, Nat.zero_le _⟩ (Rd.nil_ _ _ _ _) hcp hrd) (Nat.le_refl _) (by unfold maxLen; omega) D hf c (xs.take hf) (hrd.front hfn) ((n : Int) * 5)
            clear hro hrd hcp hx
            go_simp
            all_goals exact hcon
          go_simp
          refine hK.out _ ?_
          clear hK K
          repeat (refine wpGrow_pure rfl (fun K hK => ?_); go_simp; refine hK.out _ ?_; clear hK K)
          refine wpGrow_eff _ rfl (fun wx he hcl => ?_) (fun _ K hK => ?_) rfl
          · clear hcl
            have kk2 := KB.out.below he KB.out.lt
            have hq0 := kk2.cell 0
            have hq1 := kk2.cell 1
            simp at hq0 hq1
            go_simp
            exact Below.refl _ _
          go_simp
          refine hK.out _ ?_
          clear hK K
          repeat (refine wpGrow_pure rfl (fun K hK => ?_); go_simp; refine hK.out _ ?_; clear hK K)
          refine wpGrow_eff _ rfl (fun wx he hcl => ?_) (fun _ K hK => ?_) rfl
          · clear hcl
            have hro := own_ext HO.out he
            have hrd := Rd.of_own hro
            have hcp := own_cap hro
            have hcon := frameBits_any wx kk D n c xs hrd ((n : Int) * 11)
            clear hro hrd hcp
            go_simp
            all_goals exact hcon
          go_simp
          refine hK.out _ ?_
          clear hK K
          repeat (refine wpGrow_pure rfl (fun K hK => ?_); go_simp; refine hK.out _ ?_; clear hK K)
          refine wpGrow_nil fun wx he hfin => ?_
          clear hfin
          replace hb := hb.trans (he.mono hb.size)
          clear he KB HO e5 e11 e2 hc2 f0 f1 dj
          go_wp2_with fail
          go_roundw
          case rel => exact ⟨n + 1 + n / 20, by omega, by first | go_num | (congr 1), hb⟩
          case measure => simp [intOf]; omega
    · have d : decide ((n : Int) < 140) = false := by simp; omega
      go_wp2_with fail
      obtain ⟨W9, g9, hW9, hg9, hR9, hB9⟩ := known9 wr
      rw [hW9, hg9]
      have HB9 := Lib.hid (hb.trans (hB9.mono hb.size))
      have HR9 := Lib.hid hR9
      clear hW9 hg9 hR9 hB9 hb d hlt
      go_loopw [75] (fun k wr => ∃ k9 : Nat, k9 ≤ 9 ∧ k = .int .i64 k9 ∧ Below W9.heap.size W9 wr) (fun k _ => 9 - (intOf k).toNat)
      case atStart => exact ⟨0, by omega, rfl, Below.refl _ _⟩
      case round =>
        obtain ⟨k, hk, rfl, hx⟩ := hrel
        by_cases hlt : k < 9
        · have d : decide ((k : Int) < 9) = true := by simp; omega
          obtain ⟨b1, o1, A1, m1, c1, hAe, hb1, hc1, hm1, hm2, hr1⟩ := (HR9.out.below hx).2 k hlt
          obtain ⟨e1, e2⟩ : b1 = g9 ∧ o1 = 0 := by injection hAe with e; injection e with e1 e2; exact ⟨e1.symm, e2.symm⟩
          subst e1 e2
          rw [Nat.zero_add] at hc1
          obtain ⟨bs, hbs⟩ : ∃ bs, byts ([[], [1], [1, 0], [1, 0, 0, 0, 0], [1, 128], [1, 128, 0, 1, 1, 1, 1], [1, 128, 128, 4, 1, 1, 1, 1], [1, 255, 255, 3, 1, 1, 1, 1], [0, 0, 0, 0, 0, 0]].getD k []) = byts bs := ⟨_, rfl⟩
          rw [hbs] at hr1
          have HR1 := Lib.hid hr1
          have HX := Lib.hid hx
          have hlb := Nat.lt_of_lt_of_le hb1 hx.size
          have d1 : (0 : Int) ≤ (k : Int) := by omega
          have d2 : (k : Int) < 9 := by omega
          clear hAe hbs hr1 hx
          go_wp2_with fail
          obtain ⟨wv, hwv⟩ : ∃ v, v = wr := ⟨_, rfl⟩
          rw [← hwv] at HR1 HX ⊢
          clear hwv hc1 hlb
          go_loopw [6] (fun i wr => ∃ z : Int, -1 ≤ z ∧ z ≤ 4 ∧ i = .int .i64 z ∧ Below wv.heap.size wv wr) (fun i _ => (4 - intOf i).toNat)
          case atStart => exact ⟨-1, by omega, by omega, rfl, Below.refl _ _⟩
          case round =>
            obtain ⟨z, hz1, hz2, rfl, hx⟩ := hrel
            by_cases hlz : z < 4
            · have dz : decide (z < 4) = true := by simp; omega
              go_wp2_with fail
              refine (frameTakes_any wr A1 m1 c1 bs ((HR1.out.below (hx.mono HX.out.size)).more (HX.out.trans (hx.mono HX.out.size)).size) hm1 hm2 z (by omega) (by omega)).mono ?_
              rintro en w2 ⟨rfl, hbn⟩
              replace hx := hx.trans (hbn.mono hx.size)
              clear hbn dz
              go_wp2_with fail
              go_roundw
              case rel => exact ⟨z + 1, by omega, by omega, by go_num, hx⟩
              case measure => simp [intOf]; omega
            · have dz : decide (z < 4) = false := by simp; omega
              replace HX := Lib.hid (HX.out.trans (hx.mono HX.out.size))
              clear hx
              go_wp2_with fail
              go_roundw
              case rel => exact ⟨k + 1, by omega, by go_num, HX.out⟩
              case measure => simp [intOf]; omega
        · have d : decide ((k : Int) < 9) = false := by simp; omega
          replace HB9 := Lib.hid (HB9.out.trans (hx.mono HB9.out.size))
          clear hx HR9
          obtain ⟨Z1, hZ1⟩ : ∃ Z, zrow 65535 = Z := ⟨_, rfl⟩
          obtain ⟨Z2, hZ2⟩ : ∃ Z, zrow 65536 = Z := ⟨_, rfl⟩
          have hm1 := fun w => run_make_bytes (P := Try.prog) Try.underlying22 makeB .i64 .i64 65535 (by omega) w
          have hm2 := fun w => run_make_bytes (P := Try.prog) Try.underlying22 makeB .i64 .i64 65536 (by omega) w
          rw [hZ1] at hm1
          have hm1' : ∀ w, (Instr.makeSlice 22 (.int .i64 65535) (.int .i64 65535)).run Try.prog w = .ok (.slice (some ⟨w.heap.size, 0, none⟩) 65535 65535) (w.alloc (.cells Z1 5)) := hm1
          clear hm1
          rw [hZ2] at hm2
          have hm2' : ∀ w, (Instr.makeSlice 22 (.int .i64 65536) (.int .i64 65536)).run Try.prog w = .ok (.slice (some ⟨w.heap.size, 0, none⟩) 65536 65536) (w.alloc (.cells Z2 5)) := hm2
          clear hm2
          have HZ1 := Lib.hid hZ1
          have HZ2 := Lib.hid hZ2
          clear hZ1 hZ2
          go_wp2_with fail
          obtain ⟨BD, hBL, hRB⟩ := zbig wr 5 65535 Z1 HZ1.out
          have hRB2 := hRB.alloc (by simp) (.cells #[.int .u8 3, .slice (some ⟨wr.heap.size, 0, none⟩) 65535 65535] 26)
          have kn := Whole.new (wr.alloc (.cells Z1 5)) 26 #[.int .u8 3, .slice (some ⟨wr.heap.size, 0, none⟩) 65535 65535]
          have hb2 := (HB9.out.alloc HB9.out.size (.cells Z1 5)).alloc (Nat.le_trans HB9.out.size (by simp)) (.cells #[.int .u8 3, .slice (some ⟨wr.heap.size, 0, none⟩) 65535 65535] 26)
          have hz2 : wr.heap.size + 1 ≤ ((wr.alloc (.cells Z1 5)).alloc (.cells #[.int .u8 3, .slice (some ⟨wr.heap.size, 0, none⟩) 65535 65535] 26)).heap.size := by simp
          rw [World.size_alloc] at kn
          have hput := fput_any ((wr.alloc (.cells Z1 5)).alloc (.cells #[.int .u8 3, .slice (some ⟨wr.heap.size, 0, none⟩) 65535 65535] 26)) 3 (some ⟨wr.heap.size, 0, none⟩) 65535 65535 BD (wr.heap.size + 1) hz2 hRB2 (by omega)
          obtain ⟨PB, hPB⟩ : ∃ PB, Fra.bytes 3 BD = PB := ⟨_, rfl⟩
          have hpe : Fra.putE BD = 0 := by unfold Fra.putE; rw [if_neg (by omega)]
          have hpb : Fra.putB 3 BD = PB := by unfold Fra.putB; rw [if_neg (by omega), hPB]
          have hpl : PB.length = 65543 := by rw [← hPB]; exact Fra.len35 3 BD hBL
          rw [hpb, hpe, hpl] at hput
          have HONE := Lib.hid (show Fra.one PB = (3, BD, 0) from by rw [← hPB]; exact Fra.one_bytes 3 BD (by omega))
          have HBL := Lib.hid hBL
          have HPUT := Lib.hid hput
          have KN := Lib.hid kn
          have HB2 := Lib.hid hb2
          clear hRB hRB2 kn hb2 hz2 hput hPB hpe hpb hpl hBL
          obtain ⟨g1, hg1⟩ : ∃ g, wr.heap.size = g := ⟨_, rfl⟩
          rw [hg1] at KN HPUT HB2 ⊢
          generalize (wr.alloc (.cells Z1 5)).alloc (.cells #[.int .u8 3, .slice (some ⟨g1, 0, none⟩) 65535 65535] 26) = v2 at *
          clear hg1 HB9
          refine HPUT.out.mono ?_
          clear HPUT
          rintro en w3 ⟨D8, c8, rfl, ho8, hbn⟩
          have HO8 := Lib.hid ho8
          replace HB2 := Lib.hid (HB2.out.trans (hbn.mono HB2.out.size))
          clear ho8 hbn KN
          go_wp2_with fail
          have hcon := fone_any w3 D8 65543 c8 PB w3.heap.size (Nat.le_refl _) (Rd.of_own HO8.out) (own_cap HO8.out).1 (own_cap HO8.out).2 (by omega)
          rw [HONE.out] at hcon
          unfold FrOne at hcon
          simp only [HBL.out] at hcon
          refine hcon.mono ?_
          clear hcon
          rintro en w4 ⟨D10, c10, rfl, _, hbn⟩
          replace HB2 := Lib.hid (HB2.out.trans (hbn.mono HB2.out.size))
          clear hbn HO8 hm1'
          go_wp2_with fail
          obtain ⟨BD2, hBL2, hR⟩ := zbig (w4.alloc (.cells #[.int .u8 3, .slice D10 65535 c10] 26)) 5 65536 Z2 HZ2.out
          rw [World.size_alloc] at hR
          have k12 := Whole.new ((w4.alloc (.cells #[.int .u8 3, .slice D10 65535 c10] 26)).alloc (.cells Z2 5)) 26 #[.int .u8 3, .slice (some ⟨w4.heap.size + 1, 0, none⟩) 65536 65536]
          rw [World.size_alloc, World.size_alloc] at k12
          have k12' := k12.alloc (.cells #[.int .u8 3, .slice (some ⟨w4.heap.size + 1, 0, none⟩) 65536 65536] 26)
          have kr := Whole.new (((w4.alloc (.cells #[.int .u8 3, .slice D10 65535 c10] 26)).alloc (.cells Z2 5)).alloc (.cells #[.int .u8 3, .slice (some ⟨w4.heap.size + 1, 0, none⟩) 65536 65536] 26)) 26 #[.int .u8 3, .slice (some ⟨w4.heap.size + 1, 0, none⟩) 65536 65536]
          rw [World.size_alloc, World.size_alloc, World.size_alloc] at kr
          have hR2 := (hR.alloc (by simp) (.cells #[.int .u8 3, .slice (some ⟨w4.heap.size + 1, 0, none⟩) 65536 65536] 26)).alloc (by simp) (.cells #[.int .u8 3, .slice (some ⟨w4.heap.size + 1, 0, none⟩) 65536 65536] 26)
          have hb2 := (((HB2.out.alloc HB2.out.size (.cells #[.int .u8 3, .slice D10 65535 c10] 26)).alloc (Nat.le_trans HB2.out.size (by simp)) (.cells Z2 5)).alloc (Nat.le_trans HB2.out.size (by simp; omega)) (.cells #[.int .u8 3, .slice (some ⟨w4.heap.size + 1, 0, none⟩) 65536 65536] 26)).alloc (Nat.le_trans HB2.out.size (by simp; omega)) (.cells #[.int .u8 3, .slice (some ⟨w4.heap.size + 1, 0, none⟩) 65536 65536] 26)
          have hzz : w4.heap.size + 1 + 1 ≤ ((((w4.alloc (.cells #[.int .u8 3, .slice D10 65535 c10] 26)).alloc (.cells Z2 5)).alloc (.cells #[.int .u8 3, .slice (some ⟨w4.heap.size + 1, 0, none⟩) 65536 65536] 26)).alloc (.cells #[.int .u8 3, .slice (some ⟨w4.heap.size + 1, 0, none⟩) 65536 65536] 26)).heap.size := by simp
          have HBL2 := Lib.hid hBL2
          have HR2 := Lib.hid hR2
          have K12 := Lib.hid k12'
          have KR := Lib.hid kr
          have HBB := Lib.hid hb2
          have HZZ := Lib.hid hzz
          clear hBL2 hR hR2 k12 k12' kr hb2 hzz hm2' HZ1 HZ2
          obtain ⟨g4, hg4⟩ : ∃ g, w4.heap.size = g := ⟨_, rfl⟩
          rw [hg4] at HR2 K12 KR HBB HZZ ⊢
          generalize ((((w4.alloc (.cells #[.int .u8 3, .slice D10 65535 c10] 26)).alloc (.cells Z2 5)).alloc (.cells #[.int .u8 3, .slice (some ⟨g4 + 1, 0, none⟩) 65536 65536] 26)).alloc (.cells #[.int .u8 3, .slice (some ⟨g4 + 1, 0, none⟩) 65536 65536] 26)) = v8 at *
          clear hg4 HB2
          refine (framePuts_any v8 (some ⟨g4 + 1 + 1 + 1, 0, none⟩) 1 1 [(3, BD2)] (RdFr.of1 KR.out KR.out.lt ⟨Nat.le_refl _, by unfold maxLen; omega⟩ (HR2.out.more HZZ.out)) (by omega) (by intro f hf; simp at hf; subst hf; have := HBL2.out; simp only; omega)).mono ?_
          rintro en w5 ⟨rfl, hbn⟩
          replace HR2 := Lib.hid (HR2.out.below (hbn.mono HZZ.out))
          replace K12 := Lib.hid (K12.out.below hbn K12.out.lt)
          replace HBB := Lib.hid (HBB.out.trans (hbn.mono HBB.out.size))
          replace HZZ := Lib.hid (Nat.le_trans HZZ.out hbn.size)
          clear hbn KR
          have hc0 := K12.out.cell 0
          have hc1 := K12.out.cell 1
          have hl := K12.out.lt
          simp at hc0 hc1
          go_wp2_with fail
          have hcon := fsize_any w5 3 (some ⟨g4 + 1, 0, none⟩) 65536 65536 BD2 (g4 + 1 + 1) HZZ.out HR2.out (by omega)
          rw [Fra.len36 3 BD2 HBL2.out] at hcon
          refine hcon.mono ?_
          clear hcon
          rintro en w6 ⟨rfl, hbn⟩
          replace HBB := Lib.hid (HBB.out.trans (hbn.mono HBB.out.size))
          clear hbn hc0 hc1 hl HR2 K12
          go_wp2_with fail
          refine (framePuts_any w6 none 0 0 [] ⟨rfl, fun j hj => absurd hj (by simp)⟩ (by omega) (by simp)).mono ?_
          rintro en w7 ⟨rfl, hbn⟩
          replace HBB := Lib.hid (HBB.out.trans (hbn.mono HBB.out.size))
          clear hbn
          go_wp2_with fail
          refine (frameBack_any w7 none 0 0 [] ⟨rfl, fun j hj => absurd hj (by simp)⟩ (Nat.le_refl _) (Nat.zero_le _) none 0 0 [] (Rd.nil_ _ _ _ _) 0).mono ?_
          rintro en w8 ⟨rfl, hbn⟩
          replace HBB := Lib.hid (HBB.out.trans (hbn.mono HBB.out.size))
          clear hbn
          go_wp2_with fail
          refine (fworks_any _).mono ?_
          rintro en w9 ⟨rfl, hbn⟩
          replace HBB := Lib.hid (HBB.out.trans (hbn.mono HBB.out.size))
          go_wp2_with fail
          go_ret
          exact ⟨rfl, HBB.out⟩

end Go.Proofs.Ytnncohajlmbedaa
