/-
  Records: the law's example and odd.
-/
import Derived.Test.YtmobgamlednlhaaRecRgt
namespace Go.Proofs.Ytmobgamlednlhaa
open Go.RowKit
set_option maxRecDepth 100000 in
set_option maxHeartbeats 16000000 in
theorem example_any (k : Nat) (hk : k < 256) : ∃ x : Rc, x.ok ∧ x.name.size ≤ 2 ∧ x.to.size ≤ 2 ∧ ∀ w : World, Calls Try.prog 21 #[.int .u8 (k : Nat)] w fun en w' => en = .returned (.agg x.cells) ∧ Below w.heap.size w w' := by
  by_cases h1 : k = 1
  · subst h1
    refine ⟨(⟨1, 1, 2, 3, 300, 1099511627776, 0, 0, 0, 0, ⟨#[]⟩, ⟨#[]⟩⟩ : Rc), ⟨(by decide : (1 : Nat) < 256), (by decide : (1 : Nat) < 18446744073709551616), (by decide : (2 : Nat) < 18446744073709551616), (by decide : (3 : Nat) < 18446744073709551616), (by decide : (300 : Nat) < 18446744073709551616), (by decide : (1099511627776 : Nat) < 18446744073709551616), (by decide : (0 : Nat) < 18446744073709551616), (by decide : (0 : Nat) < 18446744073709551616), (by decide : (0 : Nat) < 18446744073709551616), (by decide : (0 : Nat) < 18446744073709551616), (by decide : (⟨#[]⟩ : ByteArray).size ≤ maxLen), (by decide : (⟨#[]⟩ : ByteArray).size ≤ maxLen)⟩, (by decide : (⟨#[]⟩ : ByteArray).size ≤ 2), (by decide : (⟨#[]⟩ : ByteArray).size ≤ 2), fun w => ?_⟩
    have V0 := Lib.hid ((Whole.new w 24 #[.int .u8 0, .int .u64 0, .int .u64 0, .int .u64 0, .int .u64 0, .int .u64 0, .int .u64 0, .int .u64 0, .int .u64 0, .int .u64 0, .string ⟨#[]⟩, .string ⟨#[]⟩]).alloc (.cells #[.int .u8 0, .int .u64 0, .int .u64 0, .int .u64 0, .int .u64 0, .int .u64 0, .int .u64 0, .int .u64 0, .int .u64 0, .int .u64 0, .string ⟨#[]⟩, .string ⟨#[]⟩] 24))
    have hz : (w.alloc (.cells #[.int .u8 0, .int .u64 0, .int .u64 0, .int .u64 0, .int .u64 0, .int .u64 0, .int .u64 0, .int .u64 0, .int .u64 0, .int .u64 0, .string ⟨#[]⟩, .string ⟨#[]⟩] 24)).heap.size = w.heap.size + 1 := by simp
    have V1 : Whole ((w.alloc (.cells #[.int .u8 0, .int .u64 0, .int .u64 0, .int .u64 0, .int .u64 0, .int .u64 0, .int .u64 0, .int .u64 0, .int .u64 0, .int .u64 0, .string ⟨#[]⟩, .string ⟨#[]⟩] 24)).alloc (.cells #[.int .u8 0, .int .u64 0, .int .u64 0, .int .u64 0, .int .u64 0, .int .u64 0, .int .u64 0, .int .u64 0, .int .u64 0, .int .u64 0, .string ⟨#[]⟩, .string ⟨#[]⟩] 24)) (w.heap.size + 1) 24 #[.int .u8 0, .int .u64 0, .int .u64 0, .int .u64 0, .int .u64 0, .int .u64 0, .int .u64 0, .int .u64 0, .int .u64 0, .int .u64 0, .string ⟨#[]⟩, .string ⟨#[]⟩] := by rw [← hz]; exact Whole.new _ _ _
    have HB := Lib.hid ((belowK w (.cells #[.int .u8 0, .int .u64 0, .int .u64 0, .int .u64 0, .int .u64 0, .int .u64 0, .int .u64 0, .int .u64 0, .int .u64 0, .int .u64 0, .string ⟨#[]⟩, .string ⟨#[]⟩] 24)).trans ((belowK (w.alloc (.cells #[.int .u8 0, .int .u64 0, .int .u64 0, .int .u64 0, .int .u64 0, .int .u64 0, .int .u64 0, .int .u64 0, .int .u64 0, .int .u64 0, .string ⟨#[]⟩, .string ⟨#[]⟩] 24)) (.cells #[.int .u8 0, .int .u64 0, .int .u64 0, .int .u64 0, .int .u64 0, .int .u64 0, .int .u64 0, .int .u64 0, .int .u64 0, .int .u64 0, .string ⟨#[]⟩, .string ⟨#[]⟩] 24)).mono (by rw [hz]; omega)))
    have V1' := Lib.hid V1
    have KS := Lib.hid (V1.row (⟨1, 1, 2, 3, 0, 0, 0, 0, 0, 0, ⟨#[]⟩, ⟨#[]⟩⟩ : Rc).cells)
    have VS := Lib.hid (V0.out.row_far (k := w.heap.size + 1) (by omega) (⟨1, 1, 2, 3, 0, 0, 0, 0, 0, 0, ⟨#[]⟩, ⟨#[]⟩⟩ : Rc).cells)
    have BS := Lib.hid (Below.setRow HB.out (g := w.heap.size + 1) (by omega) (⟨1, 1, 2, 3, 0, 0, 0, 0, 0, 0, ⟨#[]⟩, ⟨#[]⟩⟩ : Rc).cells)
    clear V1 hz HB V0
    obtain ⟨x, hx⟩ : ∃ x : Rc, (⟨1, 1, 2, 3, 300, 1099511627776, 0, 0, 0, 0, ⟨#[]⟩, ⟨#[]⟩⟩ : Rc) = x := ⟨_, rfl⟩
    have HX := Lib.hid hx
    rw [hx]
    clear hx
    go_enter Try.func21, Try.ntmps21
    go_wp2_with (first
      | (refine wpList_store_row rfl 24 (.tmp 3) (.tmp 5) rfl (w.heap.size + 1) (⟨1, 1, 2, 3, 0, 0, 0, 0, 0, 0, ⟨#[]⟩, ⟨#[]⟩⟩ : Rc).cells rfl rfl 24 _ V1'.out (rec_size _) rfl (rec_cells _) ?_; generalize (World.setRow ((w.alloc (.cells #[.int .u8 0, .int .u64 0, .int .u64 0, .int .u64 0, .int .u64 0, .int .u64 0, .int .u64 0, .int .u64 0, .int .u64 0, .int .u64 0, .string ⟨#[]⟩, .string ⟨#[]⟩] 24)).alloc (.cells #[.int .u8 0, .int .u64 0, .int .u64 0, .int .u64 0, .int .u64 0, .int .u64 0, .int .u64 0, .int .u64 0, .int .u64 0, .int .u64 0, .string ⟨#[]⟩, .string ⟨#[]⟩] 24)) (w.heap.size + 1) (⟨1, 1, 2, 3, 0, 0, 0, 0, 0, 0, ⟨#[]⟩, ⟨#[]⟩⟩ : Rc).cells) = W2 at KS VS BS ⊢; have fz0 := KS.out.frozen 4; have cv0 : W2.cell? ⟨w.heap.size + 1, 4, none⟩ = some (.int .u64 0) := KS.out.cell 4; have K1 := Lib.hid (show Whole (W2.setCell ⟨w.heap.size + 1, 4, none⟩ (.int .u64 300)) (w.heap.size + 1) 24 (⟨1, 1, 2, 3, 300, 0, 0, 0, 0, 0, ⟨#[]⟩, ⟨#[]⟩⟩ : Rc).cells from KS.out.put_ 4 (.int .u64 300)); have fz1 := KS.out.frozen 5; have cv1 : W2.cell? ⟨w.heap.size + 1, 5, none⟩ = some (.int .u64 0) := KS.out.cell 5; have K2 := Lib.hid (show Whole ((W2.setCell ⟨w.heap.size + 1, 4, none⟩ (.int .u64 300)).setCell ⟨w.heap.size + 1, 5, none⟩ (.int .u64 1099511627776)) (w.heap.size + 1) 24 (⟨1, 1, 2, 3, 300, 1099511627776, 0, 0, 0, 0, ⟨#[]⟩, ⟨#[]⟩⟩ : Rc).cells from K1.out.put_ 5 (.int .u64 1099511627776)); have VF := Lib.hid ((VS.out.far (p := ⟨w.heap.size + 1, 4, none⟩) (by simp) (.int .u64 300)).far (p := ⟨w.heap.size + 1, 5, none⟩) (by simp) (.int .u64 1099511627776)); have BF := Lib.hid ((BS.out.setCell (p := ⟨w.heap.size + 1, 4, none⟩) (by simp) (.int .u64 300)).setCell (p := ⟨w.heap.size + 1, 5, none⟩) (by simp) (.int .u64 1099511627776)))
      | (refine wpList_load_row rfl 24 (.tmp 3) rfl (w.heap.size + 1) rfl 24 x.cells (0, 0) _ ?_ Try.underlying24 rfl (rec_size _) ?_; · rw [← HX.out]; exact K2.out)
      | (refine wpList_store_row rfl 24 (.tmp 2) (.tmp 39) rfl w.heap.size x.cells rfl rfl 24 _ VF.out (rec_size _) rfl (rec_cells _) ?_))
    have k9 := VF.out.row x.cells
    have b9 := Below.setRow BF.out (g := w.heap.size) (by omega) x.cells
    generalize World.setRow ((W2.setCell ⟨w.heap.size + 1, 4, none⟩ (.int .u64 300)).setCell ⟨w.heap.size + 1, 5, none⟩ (.int .u64 1099511627776)) (w.heap.size) x.cells = W9 at k9 b9 ⊢
    have r0 : W9.cell? ⟨w.heap.size, 0, none⟩ = some (.int .u8 (x.k : Nat)) := k9.cell 0
    have r1 : W9.cell? ⟨w.heap.size, 1, none⟩ = some (.int .u64 (x.proc : Nat)) := k9.cell 1
    have r2 : W9.cell? ⟨w.heap.size, 2, none⟩ = some (.int .u64 (x.inc : Nat)) := k9.cell 2
    have r3 : W9.cell? ⟨w.heap.size, 3, none⟩ = some (.int .u64 (x.seq : Nat)) := k9.cell 3
    have r4 : W9.cell? ⟨w.heap.size, 4, none⟩ = some (.int .u64 (x.epoch : Nat)) := k9.cell 4
    have r5 : W9.cell? ⟨w.heap.size, 5, none⟩ = some (.int .u64 (x.until_ : Nat)) := k9.cell 5
    have r6 : W9.cell? ⟨w.heap.size, 6, none⟩ = some (.int .u64 (x.version : Nat)) := k9.cell 6
    have r7 : W9.cell? ⟨w.heap.size, 7, none⟩ = some (.int .u64 (x.clock : Nat)) := k9.cell 7
    have r8 : W9.cell? ⟨w.heap.size, 8, none⟩ = some (.int .u64 (x.size : Nat)) := k9.cell 8
    have r9 : W9.cell? ⟨w.heap.size, 9, none⟩ = some (.int .u64 (x.crc : Nat)) := k9.cell 9
    have r10 : W9.cell? ⟨w.heap.size, 10, none⟩ = some (.string x.name) := k9.cell 10
    have r11 : W9.cell? ⟨w.heap.size, 11, none⟩ = some (.string x.to) := k9.cell 11
    clear k9
    have B9 := Lib.hid b9
    clear b9
    simp [bodyPost, results, Try.results21, go_sem, Rc.cells, r0, r1, r2, r3, r4, r5, r6, r7, r8, r9, r10, r11]
    exact B9.out
  · have b1 : ((k : Int) == 1) = false := by simp; omega
    by_cases h2 : k = 2
    · subst h2
      refine ⟨(⟨2, 1, 2, 3, 300, 1099511627776, 0, 0, 0, 0, ⟨#[]⟩, ⟨#[]⟩⟩ : Rc), ⟨(by decide : (2 : Nat) < 256), (by decide : (1 : Nat) < 18446744073709551616), (by decide : (2 : Nat) < 18446744073709551616), (by decide : (3 : Nat) < 18446744073709551616), (by decide : (300 : Nat) < 18446744073709551616), (by decide : (1099511627776 : Nat) < 18446744073709551616), (by decide : (0 : Nat) < 18446744073709551616), (by decide : (0 : Nat) < 18446744073709551616), (by decide : (0 : Nat) < 18446744073709551616), (by decide : (0 : Nat) < 18446744073709551616), (by decide : (⟨#[]⟩ : ByteArray).size ≤ maxLen), (by decide : (⟨#[]⟩ : ByteArray).size ≤ maxLen)⟩, (by decide : (⟨#[]⟩ : ByteArray).size ≤ 2), (by decide : (⟨#[]⟩ : ByteArray).size ≤ 2), fun w => ?_⟩
      have V0 := Lib.hid ((Whole.new w 24 #[.int .u8 0, .int .u64 0, .int .u64 0, .int .u64 0, .int .u64 0, .int .u64 0, .int .u64 0, .int .u64 0, .int .u64 0, .int .u64 0, .string ⟨#[]⟩, .string ⟨#[]⟩]).alloc (.cells #[.int .u8 0, .int .u64 0, .int .u64 0, .int .u64 0, .int .u64 0, .int .u64 0, .int .u64 0, .int .u64 0, .int .u64 0, .int .u64 0, .string ⟨#[]⟩, .string ⟨#[]⟩] 24))
      have hz : (w.alloc (.cells #[.int .u8 0, .int .u64 0, .int .u64 0, .int .u64 0, .int .u64 0, .int .u64 0, .int .u64 0, .int .u64 0, .int .u64 0, .int .u64 0, .string ⟨#[]⟩, .string ⟨#[]⟩] 24)).heap.size = w.heap.size + 1 := by simp
      have V1 : Whole ((w.alloc (.cells #[.int .u8 0, .int .u64 0, .int .u64 0, .int .u64 0, .int .u64 0, .int .u64 0, .int .u64 0, .int .u64 0, .int .u64 0, .int .u64 0, .string ⟨#[]⟩, .string ⟨#[]⟩] 24)).alloc (.cells #[.int .u8 0, .int .u64 0, .int .u64 0, .int .u64 0, .int .u64 0, .int .u64 0, .int .u64 0, .int .u64 0, .int .u64 0, .int .u64 0, .string ⟨#[]⟩, .string ⟨#[]⟩] 24)) (w.heap.size + 1) 24 #[.int .u8 0, .int .u64 0, .int .u64 0, .int .u64 0, .int .u64 0, .int .u64 0, .int .u64 0, .int .u64 0, .int .u64 0, .int .u64 0, .string ⟨#[]⟩, .string ⟨#[]⟩] := by rw [← hz]; exact Whole.new _ _ _
      have HB := Lib.hid ((belowK w (.cells #[.int .u8 0, .int .u64 0, .int .u64 0, .int .u64 0, .int .u64 0, .int .u64 0, .int .u64 0, .int .u64 0, .int .u64 0, .int .u64 0, .string ⟨#[]⟩, .string ⟨#[]⟩] 24)).trans ((belowK (w.alloc (.cells #[.int .u8 0, .int .u64 0, .int .u64 0, .int .u64 0, .int .u64 0, .int .u64 0, .int .u64 0, .int .u64 0, .int .u64 0, .int .u64 0, .string ⟨#[]⟩, .string ⟨#[]⟩] 24)) (.cells #[.int .u8 0, .int .u64 0, .int .u64 0, .int .u64 0, .int .u64 0, .int .u64 0, .int .u64 0, .int .u64 0, .int .u64 0, .int .u64 0, .string ⟨#[]⟩, .string ⟨#[]⟩] 24)).mono (by rw [hz]; omega)))
      have V1' := Lib.hid V1
      have KS := Lib.hid (V1.row (⟨2, 1, 2, 3, 0, 0, 0, 0, 0, 0, ⟨#[]⟩, ⟨#[]⟩⟩ : Rc).cells)
      have VS := Lib.hid (V0.out.row_far (k := w.heap.size + 1) (by omega) (⟨2, 1, 2, 3, 0, 0, 0, 0, 0, 0, ⟨#[]⟩, ⟨#[]⟩⟩ : Rc).cells)
      have BS := Lib.hid (Below.setRow HB.out (g := w.heap.size + 1) (by omega) (⟨2, 1, 2, 3, 0, 0, 0, 0, 0, 0, ⟨#[]⟩, ⟨#[]⟩⟩ : Rc).cells)
      clear V1 hz HB V0
      obtain ⟨x, hx⟩ : ∃ x : Rc, (⟨2, 1, 2, 3, 300, 1099511627776, 0, 0, 0, 0, ⟨#[]⟩, ⟨#[]⟩⟩ : Rc) = x := ⟨_, rfl⟩
      have HX := Lib.hid hx
      rw [hx]
      clear hx
      go_enter Try.func21, Try.ntmps21
      go_wp2_with (first
        | (refine wpList_store_row rfl 24 (.tmp 3) (.tmp 5) rfl (w.heap.size + 1) (⟨2, 1, 2, 3, 0, 0, 0, 0, 0, 0, ⟨#[]⟩, ⟨#[]⟩⟩ : Rc).cells rfl rfl 24 _ V1'.out (rec_size _) rfl (rec_cells _) ?_; generalize (World.setRow ((w.alloc (.cells #[.int .u8 0, .int .u64 0, .int .u64 0, .int .u64 0, .int .u64 0, .int .u64 0, .int .u64 0, .int .u64 0, .int .u64 0, .int .u64 0, .string ⟨#[]⟩, .string ⟨#[]⟩] 24)).alloc (.cells #[.int .u8 0, .int .u64 0, .int .u64 0, .int .u64 0, .int .u64 0, .int .u64 0, .int .u64 0, .int .u64 0, .int .u64 0, .int .u64 0, .string ⟨#[]⟩, .string ⟨#[]⟩] 24)) (w.heap.size + 1) (⟨2, 1, 2, 3, 0, 0, 0, 0, 0, 0, ⟨#[]⟩, ⟨#[]⟩⟩ : Rc).cells) = W2 at KS VS BS ⊢; have fz0 := KS.out.frozen 4; have cv0 : W2.cell? ⟨w.heap.size + 1, 4, none⟩ = some (.int .u64 0) := KS.out.cell 4; have K1 := Lib.hid (show Whole (W2.setCell ⟨w.heap.size + 1, 4, none⟩ (.int .u64 300)) (w.heap.size + 1) 24 (⟨2, 1, 2, 3, 300, 0, 0, 0, 0, 0, ⟨#[]⟩, ⟨#[]⟩⟩ : Rc).cells from KS.out.put_ 4 (.int .u64 300)); have fz1 := KS.out.frozen 5; have cv1 : W2.cell? ⟨w.heap.size + 1, 5, none⟩ = some (.int .u64 0) := KS.out.cell 5; have K2 := Lib.hid (show Whole ((W2.setCell ⟨w.heap.size + 1, 4, none⟩ (.int .u64 300)).setCell ⟨w.heap.size + 1, 5, none⟩ (.int .u64 1099511627776)) (w.heap.size + 1) 24 (⟨2, 1, 2, 3, 300, 1099511627776, 0, 0, 0, 0, ⟨#[]⟩, ⟨#[]⟩⟩ : Rc).cells from K1.out.put_ 5 (.int .u64 1099511627776)); have VF := Lib.hid ((VS.out.far (p := ⟨w.heap.size + 1, 4, none⟩) (by simp) (.int .u64 300)).far (p := ⟨w.heap.size + 1, 5, none⟩) (by simp) (.int .u64 1099511627776)); have BF := Lib.hid ((BS.out.setCell (p := ⟨w.heap.size + 1, 4, none⟩) (by simp) (.int .u64 300)).setCell (p := ⟨w.heap.size + 1, 5, none⟩) (by simp) (.int .u64 1099511627776)))
        | (refine wpList_load_row rfl 24 (.tmp 3) rfl (w.heap.size + 1) rfl 24 x.cells (0, 0) _ ?_ Try.underlying24 rfl (rec_size _) ?_; · rw [← HX.out]; exact K2.out)
        | (refine wpList_store_row rfl 24 (.tmp 2) (.tmp 39) rfl w.heap.size x.cells rfl rfl 24 _ VF.out (rec_size _) rfl (rec_cells _) ?_))
      have k9 := VF.out.row x.cells
      have b9 := Below.setRow BF.out (g := w.heap.size) (by omega) x.cells
      generalize World.setRow ((W2.setCell ⟨w.heap.size + 1, 4, none⟩ (.int .u64 300)).setCell ⟨w.heap.size + 1, 5, none⟩ (.int .u64 1099511627776)) (w.heap.size) x.cells = W9 at k9 b9 ⊢
      have r0 : W9.cell? ⟨w.heap.size, 0, none⟩ = some (.int .u8 (x.k : Nat)) := k9.cell 0
      have r1 : W9.cell? ⟨w.heap.size, 1, none⟩ = some (.int .u64 (x.proc : Nat)) := k9.cell 1
      have r2 : W9.cell? ⟨w.heap.size, 2, none⟩ = some (.int .u64 (x.inc : Nat)) := k9.cell 2
      have r3 : W9.cell? ⟨w.heap.size, 3, none⟩ = some (.int .u64 (x.seq : Nat)) := k9.cell 3
      have r4 : W9.cell? ⟨w.heap.size, 4, none⟩ = some (.int .u64 (x.epoch : Nat)) := k9.cell 4
      have r5 : W9.cell? ⟨w.heap.size, 5, none⟩ = some (.int .u64 (x.until_ : Nat)) := k9.cell 5
      have r6 : W9.cell? ⟨w.heap.size, 6, none⟩ = some (.int .u64 (x.version : Nat)) := k9.cell 6
      have r7 : W9.cell? ⟨w.heap.size, 7, none⟩ = some (.int .u64 (x.clock : Nat)) := k9.cell 7
      have r8 : W9.cell? ⟨w.heap.size, 8, none⟩ = some (.int .u64 (x.size : Nat)) := k9.cell 8
      have r9 : W9.cell? ⟨w.heap.size, 9, none⟩ = some (.int .u64 (x.crc : Nat)) := k9.cell 9
      have r10 : W9.cell? ⟨w.heap.size, 10, none⟩ = some (.string x.name) := k9.cell 10
      have r11 : W9.cell? ⟨w.heap.size, 11, none⟩ = some (.string x.to) := k9.cell 11
      clear k9
      have B9 := Lib.hid b9
      clear b9
      simp [bodyPost, results, Try.results21, go_sem, Rc.cells, r0, r1, r2, r3, r4, r5, r6, r7, r8, r9, r10, r11]
      exact B9.out
    · have b2 : ((k : Int) == 2) = false := by simp; omega
      by_cases h3 : k = 3
      · subst h3
        refine ⟨(⟨3, 1, 2, 3, 300, 0, 0, 0, 0, 0, ⟨#[]⟩, ⟨#[]⟩⟩ : Rc), ⟨(by decide : (3 : Nat) < 256), (by decide : (1 : Nat) < 18446744073709551616), (by decide : (2 : Nat) < 18446744073709551616), (by decide : (3 : Nat) < 18446744073709551616), (by decide : (300 : Nat) < 18446744073709551616), (by decide : (0 : Nat) < 18446744073709551616), (by decide : (0 : Nat) < 18446744073709551616), (by decide : (0 : Nat) < 18446744073709551616), (by decide : (0 : Nat) < 18446744073709551616), (by decide : (0 : Nat) < 18446744073709551616), (by decide : (⟨#[]⟩ : ByteArray).size ≤ maxLen), (by decide : (⟨#[]⟩ : ByteArray).size ≤ maxLen)⟩, (by decide : (⟨#[]⟩ : ByteArray).size ≤ 2), (by decide : (⟨#[]⟩ : ByteArray).size ≤ 2), fun w => ?_⟩
        have V0 := Lib.hid ((Whole.new w 24 #[.int .u8 0, .int .u64 0, .int .u64 0, .int .u64 0, .int .u64 0, .int .u64 0, .int .u64 0, .int .u64 0, .int .u64 0, .int .u64 0, .string ⟨#[]⟩, .string ⟨#[]⟩]).alloc (.cells #[.int .u8 0, .int .u64 0, .int .u64 0, .int .u64 0, .int .u64 0, .int .u64 0, .int .u64 0, .int .u64 0, .int .u64 0, .int .u64 0, .string ⟨#[]⟩, .string ⟨#[]⟩] 24))
        have hz : (w.alloc (.cells #[.int .u8 0, .int .u64 0, .int .u64 0, .int .u64 0, .int .u64 0, .int .u64 0, .int .u64 0, .int .u64 0, .int .u64 0, .int .u64 0, .string ⟨#[]⟩, .string ⟨#[]⟩] 24)).heap.size = w.heap.size + 1 := by simp
        have V1 : Whole ((w.alloc (.cells #[.int .u8 0, .int .u64 0, .int .u64 0, .int .u64 0, .int .u64 0, .int .u64 0, .int .u64 0, .int .u64 0, .int .u64 0, .int .u64 0, .string ⟨#[]⟩, .string ⟨#[]⟩] 24)).alloc (.cells #[.int .u8 0, .int .u64 0, .int .u64 0, .int .u64 0, .int .u64 0, .int .u64 0, .int .u64 0, .int .u64 0, .int .u64 0, .int .u64 0, .string ⟨#[]⟩, .string ⟨#[]⟩] 24)) (w.heap.size + 1) 24 #[.int .u8 0, .int .u64 0, .int .u64 0, .int .u64 0, .int .u64 0, .int .u64 0, .int .u64 0, .int .u64 0, .int .u64 0, .int .u64 0, .string ⟨#[]⟩, .string ⟨#[]⟩] := by rw [← hz]; exact Whole.new _ _ _
        have HB := Lib.hid ((belowK w (.cells #[.int .u8 0, .int .u64 0, .int .u64 0, .int .u64 0, .int .u64 0, .int .u64 0, .int .u64 0, .int .u64 0, .int .u64 0, .int .u64 0, .string ⟨#[]⟩, .string ⟨#[]⟩] 24)).trans ((belowK (w.alloc (.cells #[.int .u8 0, .int .u64 0, .int .u64 0, .int .u64 0, .int .u64 0, .int .u64 0, .int .u64 0, .int .u64 0, .int .u64 0, .int .u64 0, .string ⟨#[]⟩, .string ⟨#[]⟩] 24)) (.cells #[.int .u8 0, .int .u64 0, .int .u64 0, .int .u64 0, .int .u64 0, .int .u64 0, .int .u64 0, .int .u64 0, .int .u64 0, .int .u64 0, .string ⟨#[]⟩, .string ⟨#[]⟩] 24)).mono (by rw [hz]; omega)))
        have V1' := Lib.hid V1
        have KS := Lib.hid (V1.row (⟨3, 1, 2, 3, 0, 0, 0, 0, 0, 0, ⟨#[]⟩, ⟨#[]⟩⟩ : Rc).cells)
        have VS := Lib.hid (V0.out.row_far (k := w.heap.size + 1) (by omega) (⟨3, 1, 2, 3, 0, 0, 0, 0, 0, 0, ⟨#[]⟩, ⟨#[]⟩⟩ : Rc).cells)
        have BS := Lib.hid (Below.setRow HB.out (g := w.heap.size + 1) (by omega) (⟨3, 1, 2, 3, 0, 0, 0, 0, 0, 0, ⟨#[]⟩, ⟨#[]⟩⟩ : Rc).cells)
        clear V1 hz HB V0
        obtain ⟨x, hx⟩ : ∃ x : Rc, (⟨3, 1, 2, 3, 300, 0, 0, 0, 0, 0, ⟨#[]⟩, ⟨#[]⟩⟩ : Rc) = x := ⟨_, rfl⟩
        have HX := Lib.hid hx
        rw [hx]
        clear hx
        go_enter Try.func21, Try.ntmps21
        go_wp2_with (first
          | (refine wpList_store_row rfl 24 (.tmp 3) (.tmp 5) rfl (w.heap.size + 1) (⟨3, 1, 2, 3, 0, 0, 0, 0, 0, 0, ⟨#[]⟩, ⟨#[]⟩⟩ : Rc).cells rfl rfl 24 _ V1'.out (rec_size _) rfl (rec_cells _) ?_; generalize (World.setRow ((w.alloc (.cells #[.int .u8 0, .int .u64 0, .int .u64 0, .int .u64 0, .int .u64 0, .int .u64 0, .int .u64 0, .int .u64 0, .int .u64 0, .int .u64 0, .string ⟨#[]⟩, .string ⟨#[]⟩] 24)).alloc (.cells #[.int .u8 0, .int .u64 0, .int .u64 0, .int .u64 0, .int .u64 0, .int .u64 0, .int .u64 0, .int .u64 0, .int .u64 0, .int .u64 0, .string ⟨#[]⟩, .string ⟨#[]⟩] 24)) (w.heap.size + 1) (⟨3, 1, 2, 3, 0, 0, 0, 0, 0, 0, ⟨#[]⟩, ⟨#[]⟩⟩ : Rc).cells) = W2 at KS VS BS ⊢; have fz0 := KS.out.frozen 4; have cv0 : W2.cell? ⟨w.heap.size + 1, 4, none⟩ = some (.int .u64 0) := KS.out.cell 4; have K1 := Lib.hid (show Whole (W2.setCell ⟨w.heap.size + 1, 4, none⟩ (.int .u64 300)) (w.heap.size + 1) 24 (⟨3, 1, 2, 3, 300, 0, 0, 0, 0, 0, ⟨#[]⟩, ⟨#[]⟩⟩ : Rc).cells from KS.out.put_ 4 (.int .u64 300)); have VF := Lib.hid (VS.out.far (p := ⟨w.heap.size + 1, 4, none⟩) (by simp) (.int .u64 300)); have BF := Lib.hid (BS.out.setCell (p := ⟨w.heap.size + 1, 4, none⟩) (by simp) (.int .u64 300)))
          | (refine wpList_load_row rfl 24 (.tmp 3) rfl (w.heap.size + 1) rfl 24 x.cells (0, 0) _ ?_ Try.underlying24 rfl (rec_size _) ?_; · rw [← HX.out]; exact K1.out)
          | (refine wpList_store_row rfl 24 (.tmp 2) (.tmp 39) rfl w.heap.size x.cells rfl rfl 24 _ VF.out (rec_size _) rfl (rec_cells _) ?_))
        have k9 := VF.out.row x.cells
        have b9 := Below.setRow BF.out (g := w.heap.size) (by omega) x.cells
        generalize World.setRow (W2.setCell ⟨w.heap.size + 1, 4, none⟩ (.int .u64 300)) (w.heap.size) x.cells = W9 at k9 b9 ⊢
        have r0 : W9.cell? ⟨w.heap.size, 0, none⟩ = some (.int .u8 (x.k : Nat)) := k9.cell 0
        have r1 : W9.cell? ⟨w.heap.size, 1, none⟩ = some (.int .u64 (x.proc : Nat)) := k9.cell 1
        have r2 : W9.cell? ⟨w.heap.size, 2, none⟩ = some (.int .u64 (x.inc : Nat)) := k9.cell 2
        have r3 : W9.cell? ⟨w.heap.size, 3, none⟩ = some (.int .u64 (x.seq : Nat)) := k9.cell 3
        have r4 : W9.cell? ⟨w.heap.size, 4, none⟩ = some (.int .u64 (x.epoch : Nat)) := k9.cell 4
        have r5 : W9.cell? ⟨w.heap.size, 5, none⟩ = some (.int .u64 (x.until_ : Nat)) := k9.cell 5
        have r6 : W9.cell? ⟨w.heap.size, 6, none⟩ = some (.int .u64 (x.version : Nat)) := k9.cell 6
        have r7 : W9.cell? ⟨w.heap.size, 7, none⟩ = some (.int .u64 (x.clock : Nat)) := k9.cell 7
        have r8 : W9.cell? ⟨w.heap.size, 8, none⟩ = some (.int .u64 (x.size : Nat)) := k9.cell 8
        have r9 : W9.cell? ⟨w.heap.size, 9, none⟩ = some (.int .u64 (x.crc : Nat)) := k9.cell 9
        have r10 : W9.cell? ⟨w.heap.size, 10, none⟩ = some (.string x.name) := k9.cell 10
        have r11 : W9.cell? ⟨w.heap.size, 11, none⟩ = some (.string x.to) := k9.cell 11
        clear k9
        have B9 := Lib.hid b9
        clear b9
        simp [bodyPost, results, Try.results21, go_sem, Rc.cells, r0, r1, r2, r3, r4, r5, r6, r7, r8, r9, r10, r11]
        exact B9.out
      · have b3 : ((k : Int) == 3) = false := by simp; omega
        by_cases h4 : k = 4
        · subst h4
          refine ⟨(⟨4, 1, 2, 3, 5, 0, 9, 0, 65535, 4294967295, ⟨#[]⟩, ⟨#[]⟩⟩ : Rc), ⟨(by decide : (4 : Nat) < 256), (by decide : (1 : Nat) < 18446744073709551616), (by decide : (2 : Nat) < 18446744073709551616), (by decide : (3 : Nat) < 18446744073709551616), (by decide : (5 : Nat) < 18446744073709551616), (by decide : (0 : Nat) < 18446744073709551616), (by decide : (9 : Nat) < 18446744073709551616), (by decide : (0 : Nat) < 18446744073709551616), (by decide : (65535 : Nat) < 18446744073709551616), (by decide : (4294967295 : Nat) < 18446744073709551616), (by decide : (⟨#[]⟩ : ByteArray).size ≤ maxLen), (by decide : (⟨#[]⟩ : ByteArray).size ≤ maxLen)⟩, (by decide : (⟨#[]⟩ : ByteArray).size ≤ 2), (by decide : (⟨#[]⟩ : ByteArray).size ≤ 2), fun w => ?_⟩
          have V0 := Lib.hid ((Whole.new w 24 #[.int .u8 0, .int .u64 0, .int .u64 0, .int .u64 0, .int .u64 0, .int .u64 0, .int .u64 0, .int .u64 0, .int .u64 0, .int .u64 0, .string ⟨#[]⟩, .string ⟨#[]⟩]).alloc (.cells #[.int .u8 0, .int .u64 0, .int .u64 0, .int .u64 0, .int .u64 0, .int .u64 0, .int .u64 0, .int .u64 0, .int .u64 0, .int .u64 0, .string ⟨#[]⟩, .string ⟨#[]⟩] 24))
          have hz : (w.alloc (.cells #[.int .u8 0, .int .u64 0, .int .u64 0, .int .u64 0, .int .u64 0, .int .u64 0, .int .u64 0, .int .u64 0, .int .u64 0, .int .u64 0, .string ⟨#[]⟩, .string ⟨#[]⟩] 24)).heap.size = w.heap.size + 1 := by simp
          have V1 : Whole ((w.alloc (.cells #[.int .u8 0, .int .u64 0, .int .u64 0, .int .u64 0, .int .u64 0, .int .u64 0, .int .u64 0, .int .u64 0, .int .u64 0, .int .u64 0, .string ⟨#[]⟩, .string ⟨#[]⟩] 24)).alloc (.cells #[.int .u8 0, .int .u64 0, .int .u64 0, .int .u64 0, .int .u64 0, .int .u64 0, .int .u64 0, .int .u64 0, .int .u64 0, .int .u64 0, .string ⟨#[]⟩, .string ⟨#[]⟩] 24)) (w.heap.size + 1) 24 #[.int .u8 0, .int .u64 0, .int .u64 0, .int .u64 0, .int .u64 0, .int .u64 0, .int .u64 0, .int .u64 0, .int .u64 0, .int .u64 0, .string ⟨#[]⟩, .string ⟨#[]⟩] := by rw [← hz]; exact Whole.new _ _ _
          have HB := Lib.hid ((belowK w (.cells #[.int .u8 0, .int .u64 0, .int .u64 0, .int .u64 0, .int .u64 0, .int .u64 0, .int .u64 0, .int .u64 0, .int .u64 0, .int .u64 0, .string ⟨#[]⟩, .string ⟨#[]⟩] 24)).trans ((belowK (w.alloc (.cells #[.int .u8 0, .int .u64 0, .int .u64 0, .int .u64 0, .int .u64 0, .int .u64 0, .int .u64 0, .int .u64 0, .int .u64 0, .int .u64 0, .string ⟨#[]⟩, .string ⟨#[]⟩] 24)) (.cells #[.int .u8 0, .int .u64 0, .int .u64 0, .int .u64 0, .int .u64 0, .int .u64 0, .int .u64 0, .int .u64 0, .int .u64 0, .int .u64 0, .string ⟨#[]⟩, .string ⟨#[]⟩] 24)).mono (by rw [hz]; omega)))
          have V1' := Lib.hid V1
          have KS := Lib.hid (V1.row (⟨4, 1, 2, 3, 0, 0, 0, 0, 0, 0, ⟨#[]⟩, ⟨#[]⟩⟩ : Rc).cells)
          have VS := Lib.hid (V0.out.row_far (k := w.heap.size + 1) (by omega) (⟨4, 1, 2, 3, 0, 0, 0, 0, 0, 0, ⟨#[]⟩, ⟨#[]⟩⟩ : Rc).cells)
          have BS := Lib.hid (Below.setRow HB.out (g := w.heap.size + 1) (by omega) (⟨4, 1, 2, 3, 0, 0, 0, 0, 0, 0, ⟨#[]⟩, ⟨#[]⟩⟩ : Rc).cells)
          clear V1 hz HB V0
          obtain ⟨x, hx⟩ : ∃ x : Rc, (⟨4, 1, 2, 3, 5, 0, 9, 0, 65535, 4294967295, ⟨#[]⟩, ⟨#[]⟩⟩ : Rc) = x := ⟨_, rfl⟩
          have HX := Lib.hid hx
          rw [hx]
          clear hx
          go_enter Try.func21, Try.ntmps21
          go_wp2_with (first
            | (refine wpList_store_row rfl 24 (.tmp 3) (.tmp 5) rfl (w.heap.size + 1) (⟨4, 1, 2, 3, 0, 0, 0, 0, 0, 0, ⟨#[]⟩, ⟨#[]⟩⟩ : Rc).cells rfl rfl 24 _ V1'.out (rec_size _) rfl (rec_cells _) ?_; generalize (World.setRow ((w.alloc (.cells #[.int .u8 0, .int .u64 0, .int .u64 0, .int .u64 0, .int .u64 0, .int .u64 0, .int .u64 0, .int .u64 0, .int .u64 0, .int .u64 0, .string ⟨#[]⟩, .string ⟨#[]⟩] 24)).alloc (.cells #[.int .u8 0, .int .u64 0, .int .u64 0, .int .u64 0, .int .u64 0, .int .u64 0, .int .u64 0, .int .u64 0, .int .u64 0, .int .u64 0, .string ⟨#[]⟩, .string ⟨#[]⟩] 24)) (w.heap.size + 1) (⟨4, 1, 2, 3, 0, 0, 0, 0, 0, 0, ⟨#[]⟩, ⟨#[]⟩⟩ : Rc).cells) = W2 at KS VS BS ⊢; have fz0 := KS.out.frozen 4; have cv0 : W2.cell? ⟨w.heap.size + 1, 4, none⟩ = some (.int .u64 0) := KS.out.cell 4; have K1 := Lib.hid (show Whole (W2.setCell ⟨w.heap.size + 1, 4, none⟩ (.int .u64 5)) (w.heap.size + 1) 24 (⟨4, 1, 2, 3, 5, 0, 0, 0, 0, 0, ⟨#[]⟩, ⟨#[]⟩⟩ : Rc).cells from KS.out.put_ 4 (.int .u64 5)); have fz1 := KS.out.frozen 6; have cv1 : W2.cell? ⟨w.heap.size + 1, 6, none⟩ = some (.int .u64 0) := KS.out.cell 6; have K2 := Lib.hid (show Whole ((W2.setCell ⟨w.heap.size + 1, 4, none⟩ (.int .u64 5)).setCell ⟨w.heap.size + 1, 6, none⟩ (.int .u64 9)) (w.heap.size + 1) 24 (⟨4, 1, 2, 3, 5, 0, 9, 0, 0, 0, ⟨#[]⟩, ⟨#[]⟩⟩ : Rc).cells from K1.out.put_ 6 (.int .u64 9)); have fz2 := KS.out.frozen 8; have cv2 : W2.cell? ⟨w.heap.size + 1, 8, none⟩ = some (.int .u64 0) := KS.out.cell 8; have K3 := Lib.hid (show Whole (((W2.setCell ⟨w.heap.size + 1, 4, none⟩ (.int .u64 5)).setCell ⟨w.heap.size + 1, 6, none⟩ (.int .u64 9)).setCell ⟨w.heap.size + 1, 8, none⟩ (.int .u64 65535)) (w.heap.size + 1) 24 (⟨4, 1, 2, 3, 5, 0, 9, 0, 65535, 0, ⟨#[]⟩, ⟨#[]⟩⟩ : Rc).cells from K2.out.put_ 8 (.int .u64 65535)); have fz3 := KS.out.frozen 9; have cv3 : W2.cell? ⟨w.heap.size + 1, 9, none⟩ = some (.int .u64 0) := KS.out.cell 9; have K4 := Lib.hid (show Whole ((((W2.setCell ⟨w.heap.size + 1, 4, none⟩ (.int .u64 5)).setCell ⟨w.heap.size + 1, 6, none⟩ (.int .u64 9)).setCell ⟨w.heap.size + 1, 8, none⟩ (.int .u64 65535)).setCell ⟨w.heap.size + 1, 9, none⟩ (.int .u64 4294967295)) (w.heap.size + 1) 24 (⟨4, 1, 2, 3, 5, 0, 9, 0, 65535, 4294967295, ⟨#[]⟩, ⟨#[]⟩⟩ : Rc).cells from K3.out.put_ 9 (.int .u64 4294967295)); have VF := Lib.hid ((((VS.out.far (p := ⟨w.heap.size + 1, 4, none⟩) (by simp) (.int .u64 5)).far (p := ⟨w.heap.size + 1, 6, none⟩) (by simp) (.int .u64 9)).far (p := ⟨w.heap.size + 1, 8, none⟩) (by simp) (.int .u64 65535)).far (p := ⟨w.heap.size + 1, 9, none⟩) (by simp) (.int .u64 4294967295)); have BF := Lib.hid ((((BS.out.setCell (p := ⟨w.heap.size + 1, 4, none⟩) (by simp) (.int .u64 5)).setCell (p := ⟨w.heap.size + 1, 6, none⟩) (by simp) (.int .u64 9)).setCell (p := ⟨w.heap.size + 1, 8, none⟩) (by simp) (.int .u64 65535)).setCell (p := ⟨w.heap.size + 1, 9, none⟩) (by simp) (.int .u64 4294967295)))
            | (refine wpList_load_row rfl 24 (.tmp 3) rfl (w.heap.size + 1) rfl 24 x.cells (0, 0) _ ?_ Try.underlying24 rfl (rec_size _) ?_; · rw [← HX.out]; exact K4.out)
            | (refine wpList_store_row rfl 24 (.tmp 2) (.tmp 39) rfl w.heap.size x.cells rfl rfl 24 _ VF.out (rec_size _) rfl (rec_cells _) ?_))
          have k9 := VF.out.row x.cells
          have b9 := Below.setRow BF.out (g := w.heap.size) (by omega) x.cells
          generalize World.setRow ((((W2.setCell ⟨w.heap.size + 1, 4, none⟩ (.int .u64 5)).setCell ⟨w.heap.size + 1, 6, none⟩ (.int .u64 9)).setCell ⟨w.heap.size + 1, 8, none⟩ (.int .u64 65535)).setCell ⟨w.heap.size + 1, 9, none⟩ (.int .u64 4294967295)) (w.heap.size) x.cells = W9 at k9 b9 ⊢
          have r0 : W9.cell? ⟨w.heap.size, 0, none⟩ = some (.int .u8 (x.k : Nat)) := k9.cell 0
          have r1 : W9.cell? ⟨w.heap.size, 1, none⟩ = some (.int .u64 (x.proc : Nat)) := k9.cell 1
          have r2 : W9.cell? ⟨w.heap.size, 2, none⟩ = some (.int .u64 (x.inc : Nat)) := k9.cell 2
          have r3 : W9.cell? ⟨w.heap.size, 3, none⟩ = some (.int .u64 (x.seq : Nat)) := k9.cell 3
          have r4 : W9.cell? ⟨w.heap.size, 4, none⟩ = some (.int .u64 (x.epoch : Nat)) := k9.cell 4
          have r5 : W9.cell? ⟨w.heap.size, 5, none⟩ = some (.int .u64 (x.until_ : Nat)) := k9.cell 5
          have r6 : W9.cell? ⟨w.heap.size, 6, none⟩ = some (.int .u64 (x.version : Nat)) := k9.cell 6
          have r7 : W9.cell? ⟨w.heap.size, 7, none⟩ = some (.int .u64 (x.clock : Nat)) := k9.cell 7
          have r8 : W9.cell? ⟨w.heap.size, 8, none⟩ = some (.int .u64 (x.size : Nat)) := k9.cell 8
          have r9 : W9.cell? ⟨w.heap.size, 9, none⟩ = some (.int .u64 (x.crc : Nat)) := k9.cell 9
          have r10 : W9.cell? ⟨w.heap.size, 10, none⟩ = some (.string x.name) := k9.cell 10
          have r11 : W9.cell? ⟨w.heap.size, 11, none⟩ = some (.string x.to) := k9.cell 11
          clear k9
          have B9 := Lib.hid b9
          clear b9
          simp [bodyPost, results, Try.results21, go_sem, Rc.cells, r0, r1, r2, r3, r4, r5, r6, r7, r8, r9, r10, r11]
          exact B9.out
        · have b4 : ((k : Int) == 4) = false := by simp; omega
          by_cases h5 : k = 5
          · subst h5
            refine ⟨(⟨5, 1, 2, 3, 0, 18446744073709551615, 7, 0, 0, 0, ⟨#[]⟩, ⟨#[]⟩⟩ : Rc), ⟨(by decide : (5 : Nat) < 256), (by decide : (1 : Nat) < 18446744073709551616), (by decide : (2 : Nat) < 18446744073709551616), (by decide : (3 : Nat) < 18446744073709551616), (by decide : (0 : Nat) < 18446744073709551616), (by decide : (18446744073709551615 : Nat) < 18446744073709551616), (by decide : (7 : Nat) < 18446744073709551616), (by decide : (0 : Nat) < 18446744073709551616), (by decide : (0 : Nat) < 18446744073709551616), (by decide : (0 : Nat) < 18446744073709551616), (by decide : (⟨#[]⟩ : ByteArray).size ≤ maxLen), (by decide : (⟨#[]⟩ : ByteArray).size ≤ maxLen)⟩, (by decide : (⟨#[]⟩ : ByteArray).size ≤ 2), (by decide : (⟨#[]⟩ : ByteArray).size ≤ 2), fun w => ?_⟩
            have V0 := Lib.hid ((Whole.new w 24 #[.int .u8 0, .int .u64 0, .int .u64 0, .int .u64 0, .int .u64 0, .int .u64 0, .int .u64 0, .int .u64 0, .int .u64 0, .int .u64 0, .string ⟨#[]⟩, .string ⟨#[]⟩]).alloc (.cells #[.int .u8 0, .int .u64 0, .int .u64 0, .int .u64 0, .int .u64 0, .int .u64 0, .int .u64 0, .int .u64 0, .int .u64 0, .int .u64 0, .string ⟨#[]⟩, .string ⟨#[]⟩] 24))
            have hz : (w.alloc (.cells #[.int .u8 0, .int .u64 0, .int .u64 0, .int .u64 0, .int .u64 0, .int .u64 0, .int .u64 0, .int .u64 0, .int .u64 0, .int .u64 0, .string ⟨#[]⟩, .string ⟨#[]⟩] 24)).heap.size = w.heap.size + 1 := by simp
            have V1 : Whole ((w.alloc (.cells #[.int .u8 0, .int .u64 0, .int .u64 0, .int .u64 0, .int .u64 0, .int .u64 0, .int .u64 0, .int .u64 0, .int .u64 0, .int .u64 0, .string ⟨#[]⟩, .string ⟨#[]⟩] 24)).alloc (.cells #[.int .u8 0, .int .u64 0, .int .u64 0, .int .u64 0, .int .u64 0, .int .u64 0, .int .u64 0, .int .u64 0, .int .u64 0, .int .u64 0, .string ⟨#[]⟩, .string ⟨#[]⟩] 24)) (w.heap.size + 1) 24 #[.int .u8 0, .int .u64 0, .int .u64 0, .int .u64 0, .int .u64 0, .int .u64 0, .int .u64 0, .int .u64 0, .int .u64 0, .int .u64 0, .string ⟨#[]⟩, .string ⟨#[]⟩] := by rw [← hz]; exact Whole.new _ _ _
            have HB := Lib.hid ((belowK w (.cells #[.int .u8 0, .int .u64 0, .int .u64 0, .int .u64 0, .int .u64 0, .int .u64 0, .int .u64 0, .int .u64 0, .int .u64 0, .int .u64 0, .string ⟨#[]⟩, .string ⟨#[]⟩] 24)).trans ((belowK (w.alloc (.cells #[.int .u8 0, .int .u64 0, .int .u64 0, .int .u64 0, .int .u64 0, .int .u64 0, .int .u64 0, .int .u64 0, .int .u64 0, .int .u64 0, .string ⟨#[]⟩, .string ⟨#[]⟩] 24)) (.cells #[.int .u8 0, .int .u64 0, .int .u64 0, .int .u64 0, .int .u64 0, .int .u64 0, .int .u64 0, .int .u64 0, .int .u64 0, .int .u64 0, .string ⟨#[]⟩, .string ⟨#[]⟩] 24)).mono (by rw [hz]; omega)))
            have V1' := Lib.hid V1
            have KS := Lib.hid (V1.row (⟨5, 1, 2, 3, 0, 0, 0, 0, 0, 0, ⟨#[]⟩, ⟨#[]⟩⟩ : Rc).cells)
            have VS := Lib.hid (V0.out.row_far (k := w.heap.size + 1) (by omega) (⟨5, 1, 2, 3, 0, 0, 0, 0, 0, 0, ⟨#[]⟩, ⟨#[]⟩⟩ : Rc).cells)
            have BS := Lib.hid (Below.setRow HB.out (g := w.heap.size + 1) (by omega) (⟨5, 1, 2, 3, 0, 0, 0, 0, 0, 0, ⟨#[]⟩, ⟨#[]⟩⟩ : Rc).cells)
            clear V1 hz HB V0
            obtain ⟨x, hx⟩ : ∃ x : Rc, (⟨5, 1, 2, 3, 0, 18446744073709551615, 7, 0, 0, 0, ⟨#[]⟩, ⟨#[]⟩⟩ : Rc) = x := ⟨_, rfl⟩
            have HX := Lib.hid hx
            rw [hx]
            clear hx
            go_enter Try.func21, Try.ntmps21
            go_wp2_with (first
              | (refine wpList_store_row rfl 24 (.tmp 3) (.tmp 5) rfl (w.heap.size + 1) (⟨5, 1, 2, 3, 0, 0, 0, 0, 0, 0, ⟨#[]⟩, ⟨#[]⟩⟩ : Rc).cells rfl rfl 24 _ V1'.out (rec_size _) rfl (rec_cells _) ?_; generalize (World.setRow ((w.alloc (.cells #[.int .u8 0, .int .u64 0, .int .u64 0, .int .u64 0, .int .u64 0, .int .u64 0, .int .u64 0, .int .u64 0, .int .u64 0, .int .u64 0, .string ⟨#[]⟩, .string ⟨#[]⟩] 24)).alloc (.cells #[.int .u8 0, .int .u64 0, .int .u64 0, .int .u64 0, .int .u64 0, .int .u64 0, .int .u64 0, .int .u64 0, .int .u64 0, .int .u64 0, .string ⟨#[]⟩, .string ⟨#[]⟩] 24)) (w.heap.size + 1) (⟨5, 1, 2, 3, 0, 0, 0, 0, 0, 0, ⟨#[]⟩, ⟨#[]⟩⟩ : Rc).cells) = W2 at KS VS BS ⊢; have fz0 := KS.out.frozen 6; have cv0 : W2.cell? ⟨w.heap.size + 1, 6, none⟩ = some (.int .u64 0) := KS.out.cell 6; have K1 := Lib.hid (show Whole (W2.setCell ⟨w.heap.size + 1, 6, none⟩ (.int .u64 7)) (w.heap.size + 1) 24 (⟨5, 1, 2, 3, 0, 0, 7, 0, 0, 0, ⟨#[]⟩, ⟨#[]⟩⟩ : Rc).cells from KS.out.put_ 6 (.int .u64 7)); have fz1 := KS.out.frozen 5; have cv1 : W2.cell? ⟨w.heap.size + 1, 5, none⟩ = some (.int .u64 0) := KS.out.cell 5; have K2 := Lib.hid (show Whole ((W2.setCell ⟨w.heap.size + 1, 6, none⟩ (.int .u64 7)).setCell ⟨w.heap.size + 1, 5, none⟩ (.int .u64 18446744073709551615)) (w.heap.size + 1) 24 (⟨5, 1, 2, 3, 0, 18446744073709551615, 7, 0, 0, 0, ⟨#[]⟩, ⟨#[]⟩⟩ : Rc).cells from K1.out.put_ 5 (.int .u64 18446744073709551615)); have VF := Lib.hid ((VS.out.far (p := ⟨w.heap.size + 1, 6, none⟩) (by simp) (.int .u64 7)).far (p := ⟨w.heap.size + 1, 5, none⟩) (by simp) (.int .u64 18446744073709551615)); have BF := Lib.hid ((BS.out.setCell (p := ⟨w.heap.size + 1, 6, none⟩) (by simp) (.int .u64 7)).setCell (p := ⟨w.heap.size + 1, 5, none⟩) (by simp) (.int .u64 18446744073709551615)))
              | (refine wpList_load_row rfl 24 (.tmp 3) rfl (w.heap.size + 1) rfl 24 x.cells (0, 0) _ ?_ Try.underlying24 rfl (rec_size _) ?_; · rw [← HX.out]; exact K2.out)
              | (refine wpList_store_row rfl 24 (.tmp 2) (.tmp 39) rfl w.heap.size x.cells rfl rfl 24 _ VF.out (rec_size _) rfl (rec_cells _) ?_))
            have k9 := VF.out.row x.cells
            have b9 := Below.setRow BF.out (g := w.heap.size) (by omega) x.cells
            generalize World.setRow ((W2.setCell ⟨w.heap.size + 1, 6, none⟩ (.int .u64 7)).setCell ⟨w.heap.size + 1, 5, none⟩ (.int .u64 18446744073709551615)) (w.heap.size) x.cells = W9 at k9 b9 ⊢
            have r0 : W9.cell? ⟨w.heap.size, 0, none⟩ = some (.int .u8 (x.k : Nat)) := k9.cell 0
            have r1 : W9.cell? ⟨w.heap.size, 1, none⟩ = some (.int .u64 (x.proc : Nat)) := k9.cell 1
            have r2 : W9.cell? ⟨w.heap.size, 2, none⟩ = some (.int .u64 (x.inc : Nat)) := k9.cell 2
            have r3 : W9.cell? ⟨w.heap.size, 3, none⟩ = some (.int .u64 (x.seq : Nat)) := k9.cell 3
            have r4 : W9.cell? ⟨w.heap.size, 4, none⟩ = some (.int .u64 (x.epoch : Nat)) := k9.cell 4
            have r5 : W9.cell? ⟨w.heap.size, 5, none⟩ = some (.int .u64 (x.until_ : Nat)) := k9.cell 5
            have r6 : W9.cell? ⟨w.heap.size, 6, none⟩ = some (.int .u64 (x.version : Nat)) := k9.cell 6
            have r7 : W9.cell? ⟨w.heap.size, 7, none⟩ = some (.int .u64 (x.clock : Nat)) := k9.cell 7
            have r8 : W9.cell? ⟨w.heap.size, 8, none⟩ = some (.int .u64 (x.size : Nat)) := k9.cell 8
            have r9 : W9.cell? ⟨w.heap.size, 9, none⟩ = some (.int .u64 (x.crc : Nat)) := k9.cell 9
            have r10 : W9.cell? ⟨w.heap.size, 10, none⟩ = some (.string x.name) := k9.cell 10
            have r11 : W9.cell? ⟨w.heap.size, 11, none⟩ = some (.string x.to) := k9.cell 11
            clear k9
            have B9 := Lib.hid b9
            clear b9
            simp [bodyPost, results, Try.results21, go_sem, Rc.cells, r0, r1, r2, r3, r4, r5, r6, r7, r8, r9, r10, r11]
            exact B9.out
          · have b5 : ((k : Int) == 5) = false := by simp; omega
            by_cases h6 : k = 6
            · subst h6
              refine ⟨(⟨6, 1, 2, 3, 0, 0, 8, 0, 0, 0, ⟨#[]⟩, ⟨#[]⟩⟩ : Rc), ⟨(by decide : (6 : Nat) < 256), (by decide : (1 : Nat) < 18446744073709551616), (by decide : (2 : Nat) < 18446744073709551616), (by decide : (3 : Nat) < 18446744073709551616), (by decide : (0 : Nat) < 18446744073709551616), (by decide : (0 : Nat) < 18446744073709551616), (by decide : (8 : Nat) < 18446744073709551616), (by decide : (0 : Nat) < 18446744073709551616), (by decide : (0 : Nat) < 18446744073709551616), (by decide : (0 : Nat) < 18446744073709551616), (by decide : (⟨#[]⟩ : ByteArray).size ≤ maxLen), (by decide : (⟨#[]⟩ : ByteArray).size ≤ maxLen)⟩, (by decide : (⟨#[]⟩ : ByteArray).size ≤ 2), (by decide : (⟨#[]⟩ : ByteArray).size ≤ 2), fun w => ?_⟩
              have V0 := Lib.hid ((Whole.new w 24 #[.int .u8 0, .int .u64 0, .int .u64 0, .int .u64 0, .int .u64 0, .int .u64 0, .int .u64 0, .int .u64 0, .int .u64 0, .int .u64 0, .string ⟨#[]⟩, .string ⟨#[]⟩]).alloc (.cells #[.int .u8 0, .int .u64 0, .int .u64 0, .int .u64 0, .int .u64 0, .int .u64 0, .int .u64 0, .int .u64 0, .int .u64 0, .int .u64 0, .string ⟨#[]⟩, .string ⟨#[]⟩] 24))
              have hz : (w.alloc (.cells #[.int .u8 0, .int .u64 0, .int .u64 0, .int .u64 0, .int .u64 0, .int .u64 0, .int .u64 0, .int .u64 0, .int .u64 0, .int .u64 0, .string ⟨#[]⟩, .string ⟨#[]⟩] 24)).heap.size = w.heap.size + 1 := by simp
              have V1 : Whole ((w.alloc (.cells #[.int .u8 0, .int .u64 0, .int .u64 0, .int .u64 0, .int .u64 0, .int .u64 0, .int .u64 0, .int .u64 0, .int .u64 0, .int .u64 0, .string ⟨#[]⟩, .string ⟨#[]⟩] 24)).alloc (.cells #[.int .u8 0, .int .u64 0, .int .u64 0, .int .u64 0, .int .u64 0, .int .u64 0, .int .u64 0, .int .u64 0, .int .u64 0, .int .u64 0, .string ⟨#[]⟩, .string ⟨#[]⟩] 24)) (w.heap.size + 1) 24 #[.int .u8 0, .int .u64 0, .int .u64 0, .int .u64 0, .int .u64 0, .int .u64 0, .int .u64 0, .int .u64 0, .int .u64 0, .int .u64 0, .string ⟨#[]⟩, .string ⟨#[]⟩] := by rw [← hz]; exact Whole.new _ _ _
              have HB := Lib.hid ((belowK w (.cells #[.int .u8 0, .int .u64 0, .int .u64 0, .int .u64 0, .int .u64 0, .int .u64 0, .int .u64 0, .int .u64 0, .int .u64 0, .int .u64 0, .string ⟨#[]⟩, .string ⟨#[]⟩] 24)).trans ((belowK (w.alloc (.cells #[.int .u8 0, .int .u64 0, .int .u64 0, .int .u64 0, .int .u64 0, .int .u64 0, .int .u64 0, .int .u64 0, .int .u64 0, .int .u64 0, .string ⟨#[]⟩, .string ⟨#[]⟩] 24)) (.cells #[.int .u8 0, .int .u64 0, .int .u64 0, .int .u64 0, .int .u64 0, .int .u64 0, .int .u64 0, .int .u64 0, .int .u64 0, .int .u64 0, .string ⟨#[]⟩, .string ⟨#[]⟩] 24)).mono (by rw [hz]; omega)))
              have V1' := Lib.hid V1
              have KS := Lib.hid (V1.row (⟨6, 1, 2, 3, 0, 0, 0, 0, 0, 0, ⟨#[]⟩, ⟨#[]⟩⟩ : Rc).cells)
              have VS := Lib.hid (V0.out.row_far (k := w.heap.size + 1) (by omega) (⟨6, 1, 2, 3, 0, 0, 0, 0, 0, 0, ⟨#[]⟩, ⟨#[]⟩⟩ : Rc).cells)
              have BS := Lib.hid (Below.setRow HB.out (g := w.heap.size + 1) (by omega) (⟨6, 1, 2, 3, 0, 0, 0, 0, 0, 0, ⟨#[]⟩, ⟨#[]⟩⟩ : Rc).cells)
              clear V1 hz HB V0
              obtain ⟨x, hx⟩ : ∃ x : Rc, (⟨6, 1, 2, 3, 0, 0, 8, 0, 0, 0, ⟨#[]⟩, ⟨#[]⟩⟩ : Rc) = x := ⟨_, rfl⟩
              have HX := Lib.hid hx
              rw [hx]
              clear hx
              go_enter Try.func21, Try.ntmps21
              go_wp2_with (first
                | (refine wpList_store_row rfl 24 (.tmp 3) (.tmp 5) rfl (w.heap.size + 1) (⟨6, 1, 2, 3, 0, 0, 0, 0, 0, 0, ⟨#[]⟩, ⟨#[]⟩⟩ : Rc).cells rfl rfl 24 _ V1'.out (rec_size _) rfl (rec_cells _) ?_; generalize (World.setRow ((w.alloc (.cells #[.int .u8 0, .int .u64 0, .int .u64 0, .int .u64 0, .int .u64 0, .int .u64 0, .int .u64 0, .int .u64 0, .int .u64 0, .int .u64 0, .string ⟨#[]⟩, .string ⟨#[]⟩] 24)).alloc (.cells #[.int .u8 0, .int .u64 0, .int .u64 0, .int .u64 0, .int .u64 0, .int .u64 0, .int .u64 0, .int .u64 0, .int .u64 0, .int .u64 0, .string ⟨#[]⟩, .string ⟨#[]⟩] 24)) (w.heap.size + 1) (⟨6, 1, 2, 3, 0, 0, 0, 0, 0, 0, ⟨#[]⟩, ⟨#[]⟩⟩ : Rc).cells) = W2 at KS VS BS ⊢; have fz0 := KS.out.frozen 6; have cv0 : W2.cell? ⟨w.heap.size + 1, 6, none⟩ = some (.int .u64 0) := KS.out.cell 6; have K1 := Lib.hid (show Whole (W2.setCell ⟨w.heap.size + 1, 6, none⟩ (.int .u64 8)) (w.heap.size + 1) 24 (⟨6, 1, 2, 3, 0, 0, 8, 0, 0, 0, ⟨#[]⟩, ⟨#[]⟩⟩ : Rc).cells from KS.out.put_ 6 (.int .u64 8)); have VF := Lib.hid (VS.out.far (p := ⟨w.heap.size + 1, 6, none⟩) (by simp) (.int .u64 8)); have BF := Lib.hid (BS.out.setCell (p := ⟨w.heap.size + 1, 6, none⟩) (by simp) (.int .u64 8)))
                | (refine wpList_load_row rfl 24 (.tmp 3) rfl (w.heap.size + 1) rfl 24 x.cells (0, 0) _ ?_ Try.underlying24 rfl (rec_size _) ?_; · rw [← HX.out]; exact K1.out)
                | (refine wpList_store_row rfl 24 (.tmp 2) (.tmp 39) rfl w.heap.size x.cells rfl rfl 24 _ VF.out (rec_size _) rfl (rec_cells _) ?_))
              have k9 := VF.out.row x.cells
              have b9 := Below.setRow BF.out (g := w.heap.size) (by omega) x.cells
              generalize World.setRow (W2.setCell ⟨w.heap.size + 1, 6, none⟩ (.int .u64 8)) (w.heap.size) x.cells = W9 at k9 b9 ⊢
              have r0 : W9.cell? ⟨w.heap.size, 0, none⟩ = some (.int .u8 (x.k : Nat)) := k9.cell 0
              have r1 : W9.cell? ⟨w.heap.size, 1, none⟩ = some (.int .u64 (x.proc : Nat)) := k9.cell 1
              have r2 : W9.cell? ⟨w.heap.size, 2, none⟩ = some (.int .u64 (x.inc : Nat)) := k9.cell 2
              have r3 : W9.cell? ⟨w.heap.size, 3, none⟩ = some (.int .u64 (x.seq : Nat)) := k9.cell 3
              have r4 : W9.cell? ⟨w.heap.size, 4, none⟩ = some (.int .u64 (x.epoch : Nat)) := k9.cell 4
              have r5 : W9.cell? ⟨w.heap.size, 5, none⟩ = some (.int .u64 (x.until_ : Nat)) := k9.cell 5
              have r6 : W9.cell? ⟨w.heap.size, 6, none⟩ = some (.int .u64 (x.version : Nat)) := k9.cell 6
              have r7 : W9.cell? ⟨w.heap.size, 7, none⟩ = some (.int .u64 (x.clock : Nat)) := k9.cell 7
              have r8 : W9.cell? ⟨w.heap.size, 8, none⟩ = some (.int .u64 (x.size : Nat)) := k9.cell 8
              have r9 : W9.cell? ⟨w.heap.size, 9, none⟩ = some (.int .u64 (x.crc : Nat)) := k9.cell 9
              have r10 : W9.cell? ⟨w.heap.size, 10, none⟩ = some (.string x.name) := k9.cell 10
              have r11 : W9.cell? ⟨w.heap.size, 11, none⟩ = some (.string x.to) := k9.cell 11
              clear k9
              have B9 := Lib.hid b9
              clear b9
              simp [bodyPost, results, Try.results21, go_sem, Rc.cells, r0, r1, r2, r3, r4, r5, r6, r7, r8, r9, r10, r11]
              exact B9.out
            · have b6 : ((k : Int) == 6) = false := by simp; omega
              by_cases h8 : k = 8
              · subst h8
                refine ⟨(⟨8, 1, 2, 3, 0, 0, 0, 77, 0, 0, ⟨#[]⟩, ⟨#[]⟩⟩ : Rc), ⟨(by decide : (8 : Nat) < 256), (by decide : (1 : Nat) < 18446744073709551616), (by decide : (2 : Nat) < 18446744073709551616), (by decide : (3 : Nat) < 18446744073709551616), (by decide : (0 : Nat) < 18446744073709551616), (by decide : (0 : Nat) < 18446744073709551616), (by decide : (0 : Nat) < 18446744073709551616), (by decide : (77 : Nat) < 18446744073709551616), (by decide : (0 : Nat) < 18446744073709551616), (by decide : (0 : Nat) < 18446744073709551616), (by decide : (⟨#[]⟩ : ByteArray).size ≤ maxLen), (by decide : (⟨#[]⟩ : ByteArray).size ≤ maxLen)⟩, (by decide : (⟨#[]⟩ : ByteArray).size ≤ 2), (by decide : (⟨#[]⟩ : ByteArray).size ≤ 2), fun w => ?_⟩
                have V0 := Lib.hid ((Whole.new w 24 #[.int .u8 0, .int .u64 0, .int .u64 0, .int .u64 0, .int .u64 0, .int .u64 0, .int .u64 0, .int .u64 0, .int .u64 0, .int .u64 0, .string ⟨#[]⟩, .string ⟨#[]⟩]).alloc (.cells #[.int .u8 0, .int .u64 0, .int .u64 0, .int .u64 0, .int .u64 0, .int .u64 0, .int .u64 0, .int .u64 0, .int .u64 0, .int .u64 0, .string ⟨#[]⟩, .string ⟨#[]⟩] 24))
                have hz : (w.alloc (.cells #[.int .u8 0, .int .u64 0, .int .u64 0, .int .u64 0, .int .u64 0, .int .u64 0, .int .u64 0, .int .u64 0, .int .u64 0, .int .u64 0, .string ⟨#[]⟩, .string ⟨#[]⟩] 24)).heap.size = w.heap.size + 1 := by simp
                have V1 : Whole ((w.alloc (.cells #[.int .u8 0, .int .u64 0, .int .u64 0, .int .u64 0, .int .u64 0, .int .u64 0, .int .u64 0, .int .u64 0, .int .u64 0, .int .u64 0, .string ⟨#[]⟩, .string ⟨#[]⟩] 24)).alloc (.cells #[.int .u8 0, .int .u64 0, .int .u64 0, .int .u64 0, .int .u64 0, .int .u64 0, .int .u64 0, .int .u64 0, .int .u64 0, .int .u64 0, .string ⟨#[]⟩, .string ⟨#[]⟩] 24)) (w.heap.size + 1) 24 #[.int .u8 0, .int .u64 0, .int .u64 0, .int .u64 0, .int .u64 0, .int .u64 0, .int .u64 0, .int .u64 0, .int .u64 0, .int .u64 0, .string ⟨#[]⟩, .string ⟨#[]⟩] := by rw [← hz]; exact Whole.new _ _ _
                have HB := Lib.hid ((belowK w (.cells #[.int .u8 0, .int .u64 0, .int .u64 0, .int .u64 0, .int .u64 0, .int .u64 0, .int .u64 0, .int .u64 0, .int .u64 0, .int .u64 0, .string ⟨#[]⟩, .string ⟨#[]⟩] 24)).trans ((belowK (w.alloc (.cells #[.int .u8 0, .int .u64 0, .int .u64 0, .int .u64 0, .int .u64 0, .int .u64 0, .int .u64 0, .int .u64 0, .int .u64 0, .int .u64 0, .string ⟨#[]⟩, .string ⟨#[]⟩] 24)) (.cells #[.int .u8 0, .int .u64 0, .int .u64 0, .int .u64 0, .int .u64 0, .int .u64 0, .int .u64 0, .int .u64 0, .int .u64 0, .int .u64 0, .string ⟨#[]⟩, .string ⟨#[]⟩] 24)).mono (by rw [hz]; omega)))
                have V1' := Lib.hid V1
                have KS := Lib.hid (V1.row (⟨8, 1, 2, 3, 0, 0, 0, 0, 0, 0, ⟨#[]⟩, ⟨#[]⟩⟩ : Rc).cells)
                have VS := Lib.hid (V0.out.row_far (k := w.heap.size + 1) (by omega) (⟨8, 1, 2, 3, 0, 0, 0, 0, 0, 0, ⟨#[]⟩, ⟨#[]⟩⟩ : Rc).cells)
                have BS := Lib.hid (Below.setRow HB.out (g := w.heap.size + 1) (by omega) (⟨8, 1, 2, 3, 0, 0, 0, 0, 0, 0, ⟨#[]⟩, ⟨#[]⟩⟩ : Rc).cells)
                clear V1 hz HB V0
                obtain ⟨x, hx⟩ : ∃ x : Rc, (⟨8, 1, 2, 3, 0, 0, 0, 77, 0, 0, ⟨#[]⟩, ⟨#[]⟩⟩ : Rc) = x := ⟨_, rfl⟩
                have HX := Lib.hid hx
                rw [hx]
                clear hx
                go_enter Try.func21, Try.ntmps21
                go_wp2_with (first
                  | (refine wpList_store_row rfl 24 (.tmp 3) (.tmp 5) rfl (w.heap.size + 1) (⟨8, 1, 2, 3, 0, 0, 0, 0, 0, 0, ⟨#[]⟩, ⟨#[]⟩⟩ : Rc).cells rfl rfl 24 _ V1'.out (rec_size _) rfl (rec_cells _) ?_; generalize (World.setRow ((w.alloc (.cells #[.int .u8 0, .int .u64 0, .int .u64 0, .int .u64 0, .int .u64 0, .int .u64 0, .int .u64 0, .int .u64 0, .int .u64 0, .int .u64 0, .string ⟨#[]⟩, .string ⟨#[]⟩] 24)).alloc (.cells #[.int .u8 0, .int .u64 0, .int .u64 0, .int .u64 0, .int .u64 0, .int .u64 0, .int .u64 0, .int .u64 0, .int .u64 0, .int .u64 0, .string ⟨#[]⟩, .string ⟨#[]⟩] 24)) (w.heap.size + 1) (⟨8, 1, 2, 3, 0, 0, 0, 0, 0, 0, ⟨#[]⟩, ⟨#[]⟩⟩ : Rc).cells) = W2 at KS VS BS ⊢; have fz0 := KS.out.frozen 7; have cv0 : W2.cell? ⟨w.heap.size + 1, 7, none⟩ = some (.int .u64 0) := KS.out.cell 7; have K1 := Lib.hid (show Whole (W2.setCell ⟨w.heap.size + 1, 7, none⟩ (.int .u64 77)) (w.heap.size + 1) 24 (⟨8, 1, 2, 3, 0, 0, 0, 77, 0, 0, ⟨#[]⟩, ⟨#[]⟩⟩ : Rc).cells from KS.out.put_ 7 (.int .u64 77)); have VF := Lib.hid (VS.out.far (p := ⟨w.heap.size + 1, 7, none⟩) (by simp) (.int .u64 77)); have BF := Lib.hid (BS.out.setCell (p := ⟨w.heap.size + 1, 7, none⟩) (by simp) (.int .u64 77)))
                  | (refine wpList_load_row rfl 24 (.tmp 3) rfl (w.heap.size + 1) rfl 24 x.cells (0, 0) _ ?_ Try.underlying24 rfl (rec_size _) ?_; · rw [← HX.out]; exact K1.out)
                  | (refine wpList_store_row rfl 24 (.tmp 2) (.tmp 39) rfl w.heap.size x.cells rfl rfl 24 _ VF.out (rec_size _) rfl (rec_cells _) ?_))
                have k9 := VF.out.row x.cells
                have b9 := Below.setRow BF.out (g := w.heap.size) (by omega) x.cells
                generalize World.setRow (W2.setCell ⟨w.heap.size + 1, 7, none⟩ (.int .u64 77)) (w.heap.size) x.cells = W9 at k9 b9 ⊢
                have r0 : W9.cell? ⟨w.heap.size, 0, none⟩ = some (.int .u8 (x.k : Nat)) := k9.cell 0
                have r1 : W9.cell? ⟨w.heap.size, 1, none⟩ = some (.int .u64 (x.proc : Nat)) := k9.cell 1
                have r2 : W9.cell? ⟨w.heap.size, 2, none⟩ = some (.int .u64 (x.inc : Nat)) := k9.cell 2
                have r3 : W9.cell? ⟨w.heap.size, 3, none⟩ = some (.int .u64 (x.seq : Nat)) := k9.cell 3
                have r4 : W9.cell? ⟨w.heap.size, 4, none⟩ = some (.int .u64 (x.epoch : Nat)) := k9.cell 4
                have r5 : W9.cell? ⟨w.heap.size, 5, none⟩ = some (.int .u64 (x.until_ : Nat)) := k9.cell 5
                have r6 : W9.cell? ⟨w.heap.size, 6, none⟩ = some (.int .u64 (x.version : Nat)) := k9.cell 6
                have r7 : W9.cell? ⟨w.heap.size, 7, none⟩ = some (.int .u64 (x.clock : Nat)) := k9.cell 7
                have r8 : W9.cell? ⟨w.heap.size, 8, none⟩ = some (.int .u64 (x.size : Nat)) := k9.cell 8
                have r9 : W9.cell? ⟨w.heap.size, 9, none⟩ = some (.int .u64 (x.crc : Nat)) := k9.cell 9
                have r10 : W9.cell? ⟨w.heap.size, 10, none⟩ = some (.string x.name) := k9.cell 10
                have r11 : W9.cell? ⟨w.heap.size, 11, none⟩ = some (.string x.to) := k9.cell 11
                clear k9
                have B9 := Lib.hid b9
                clear b9
                simp [bodyPost, results, Try.results21, go_sem, Rc.cells, r0, r1, r2, r3, r4, r5, r6, r7, r8, r9, r10, r11]
                exact B9.out
              · have b8 : ((k : Int) == 8) = false := by simp; omega
                by_cases h9 : k = 9
                · subst h9
                  refine ⟨(⟨9, 1, 2, 3, 0, 0, 0, 0, 0, 0, ⟨#[97, 98]⟩, ⟨#[]⟩⟩ : Rc), ⟨(by decide : (9 : Nat) < 256), (by decide : (1 : Nat) < 18446744073709551616), (by decide : (2 : Nat) < 18446744073709551616), (by decide : (3 : Nat) < 18446744073709551616), (by decide : (0 : Nat) < 18446744073709551616), (by decide : (0 : Nat) < 18446744073709551616), (by decide : (0 : Nat) < 18446744073709551616), (by decide : (0 : Nat) < 18446744073709551616), (by decide : (0 : Nat) < 18446744073709551616), (by decide : (0 : Nat) < 18446744073709551616), (by decide : (⟨#[97, 98]⟩ : ByteArray).size ≤ maxLen), (by decide : (⟨#[]⟩ : ByteArray).size ≤ maxLen)⟩, (by decide : (⟨#[97, 98]⟩ : ByteArray).size ≤ 2), (by decide : (⟨#[]⟩ : ByteArray).size ≤ 2), fun w => ?_⟩
                  have V0 := Lib.hid ((Whole.new w 24 #[.int .u8 0, .int .u64 0, .int .u64 0, .int .u64 0, .int .u64 0, .int .u64 0, .int .u64 0, .int .u64 0, .int .u64 0, .int .u64 0, .string ⟨#[]⟩, .string ⟨#[]⟩]).alloc (.cells #[.int .u8 0, .int .u64 0, .int .u64 0, .int .u64 0, .int .u64 0, .int .u64 0, .int .u64 0, .int .u64 0, .int .u64 0, .int .u64 0, .string ⟨#[]⟩, .string ⟨#[]⟩] 24))
                  have hz : (w.alloc (.cells #[.int .u8 0, .int .u64 0, .int .u64 0, .int .u64 0, .int .u64 0, .int .u64 0, .int .u64 0, .int .u64 0, .int .u64 0, .int .u64 0, .string ⟨#[]⟩, .string ⟨#[]⟩] 24)).heap.size = w.heap.size + 1 := by simp
                  have V1 : Whole ((w.alloc (.cells #[.int .u8 0, .int .u64 0, .int .u64 0, .int .u64 0, .int .u64 0, .int .u64 0, .int .u64 0, .int .u64 0, .int .u64 0, .int .u64 0, .string ⟨#[]⟩, .string ⟨#[]⟩] 24)).alloc (.cells #[.int .u8 0, .int .u64 0, .int .u64 0, .int .u64 0, .int .u64 0, .int .u64 0, .int .u64 0, .int .u64 0, .int .u64 0, .int .u64 0, .string ⟨#[]⟩, .string ⟨#[]⟩] 24)) (w.heap.size + 1) 24 #[.int .u8 0, .int .u64 0, .int .u64 0, .int .u64 0, .int .u64 0, .int .u64 0, .int .u64 0, .int .u64 0, .int .u64 0, .int .u64 0, .string ⟨#[]⟩, .string ⟨#[]⟩] := by rw [← hz]; exact Whole.new _ _ _
                  have HB := Lib.hid ((belowK w (.cells #[.int .u8 0, .int .u64 0, .int .u64 0, .int .u64 0, .int .u64 0, .int .u64 0, .int .u64 0, .int .u64 0, .int .u64 0, .int .u64 0, .string ⟨#[]⟩, .string ⟨#[]⟩] 24)).trans ((belowK (w.alloc (.cells #[.int .u8 0, .int .u64 0, .int .u64 0, .int .u64 0, .int .u64 0, .int .u64 0, .int .u64 0, .int .u64 0, .int .u64 0, .int .u64 0, .string ⟨#[]⟩, .string ⟨#[]⟩] 24)) (.cells #[.int .u8 0, .int .u64 0, .int .u64 0, .int .u64 0, .int .u64 0, .int .u64 0, .int .u64 0, .int .u64 0, .int .u64 0, .int .u64 0, .string ⟨#[]⟩, .string ⟨#[]⟩] 24)).mono (by rw [hz]; omega)))
                  have V1' := Lib.hid V1
                  have KS := Lib.hid (V1.row (⟨9, 1, 2, 3, 0, 0, 0, 0, 0, 0, ⟨#[]⟩, ⟨#[]⟩⟩ : Rc).cells)
                  have VS := Lib.hid (V0.out.row_far (k := w.heap.size + 1) (by omega) (⟨9, 1, 2, 3, 0, 0, 0, 0, 0, 0, ⟨#[]⟩, ⟨#[]⟩⟩ : Rc).cells)
                  have BS := Lib.hid (Below.setRow HB.out (g := w.heap.size + 1) (by omega) (⟨9, 1, 2, 3, 0, 0, 0, 0, 0, 0, ⟨#[]⟩, ⟨#[]⟩⟩ : Rc).cells)
                  clear V1 hz HB V0
                  obtain ⟨x, hx⟩ : ∃ x : Rc, (⟨9, 1, 2, 3, 0, 0, 0, 0, 0, 0, ⟨#[97, 98]⟩, ⟨#[]⟩⟩ : Rc) = x := ⟨_, rfl⟩
                  have HX := Lib.hid hx
                  rw [hx]
                  clear hx
                  go_enter Try.func21, Try.ntmps21
                  go_wp2_with (first
                    | (refine wpList_store_row rfl 24 (.tmp 3) (.tmp 5) rfl (w.heap.size + 1) (⟨9, 1, 2, 3, 0, 0, 0, 0, 0, 0, ⟨#[]⟩, ⟨#[]⟩⟩ : Rc).cells rfl rfl 24 _ V1'.out (rec_size _) rfl (rec_cells _) ?_; generalize (World.setRow ((w.alloc (.cells #[.int .u8 0, .int .u64 0, .int .u64 0, .int .u64 0, .int .u64 0, .int .u64 0, .int .u64 0, .int .u64 0, .int .u64 0, .int .u64 0, .string ⟨#[]⟩, .string ⟨#[]⟩] 24)).alloc (.cells #[.int .u8 0, .int .u64 0, .int .u64 0, .int .u64 0, .int .u64 0, .int .u64 0, .int .u64 0, .int .u64 0, .int .u64 0, .int .u64 0, .string ⟨#[]⟩, .string ⟨#[]⟩] 24)) (w.heap.size + 1) (⟨9, 1, 2, 3, 0, 0, 0, 0, 0, 0, ⟨#[]⟩, ⟨#[]⟩⟩ : Rc).cells) = W2 at KS VS BS ⊢; have fz0 := KS.out.frozen 10; have cv0 : W2.cell? ⟨w.heap.size + 1, 10, none⟩ = some (.string ⟨#[]⟩) := KS.out.cell 10; have K1 := Lib.hid (show Whole (W2.setCell ⟨w.heap.size + 1, 10, none⟩ (.string ⟨#[97, 98]⟩)) (w.heap.size + 1) 24 (⟨9, 1, 2, 3, 0, 0, 0, 0, 0, 0, ⟨#[97, 98]⟩, ⟨#[]⟩⟩ : Rc).cells from KS.out.put_ 10 (.string ⟨#[97, 98]⟩)); have VF := Lib.hid (VS.out.far (p := ⟨w.heap.size + 1, 10, none⟩) (by simp) (.string ⟨#[97, 98]⟩)); have BF := Lib.hid (BS.out.setCell (p := ⟨w.heap.size + 1, 10, none⟩) (by simp) (.string ⟨#[97, 98]⟩)))
                    | (refine wpList_load_row rfl 24 (.tmp 3) rfl (w.heap.size + 1) rfl 24 x.cells (0, 0) _ ?_ Try.underlying24 rfl (rec_size _) ?_; · rw [← HX.out]; exact K1.out)
                    | (refine wpList_store_row rfl 24 (.tmp 2) (.tmp 39) rfl w.heap.size x.cells rfl rfl 24 _ VF.out (rec_size _) rfl (rec_cells _) ?_))
                  have k9 := VF.out.row x.cells
                  have b9 := Below.setRow BF.out (g := w.heap.size) (by omega) x.cells
                  generalize World.setRow (W2.setCell ⟨w.heap.size + 1, 10, none⟩ (.string ⟨#[97, 98]⟩)) (w.heap.size) x.cells = W9 at k9 b9 ⊢
                  have r0 : W9.cell? ⟨w.heap.size, 0, none⟩ = some (.int .u8 (x.k : Nat)) := k9.cell 0
                  have r1 : W9.cell? ⟨w.heap.size, 1, none⟩ = some (.int .u64 (x.proc : Nat)) := k9.cell 1
                  have r2 : W9.cell? ⟨w.heap.size, 2, none⟩ = some (.int .u64 (x.inc : Nat)) := k9.cell 2
                  have r3 : W9.cell? ⟨w.heap.size, 3, none⟩ = some (.int .u64 (x.seq : Nat)) := k9.cell 3
                  have r4 : W9.cell? ⟨w.heap.size, 4, none⟩ = some (.int .u64 (x.epoch : Nat)) := k9.cell 4
                  have r5 : W9.cell? ⟨w.heap.size, 5, none⟩ = some (.int .u64 (x.until_ : Nat)) := k9.cell 5
                  have r6 : W9.cell? ⟨w.heap.size, 6, none⟩ = some (.int .u64 (x.version : Nat)) := k9.cell 6
                  have r7 : W9.cell? ⟨w.heap.size, 7, none⟩ = some (.int .u64 (x.clock : Nat)) := k9.cell 7
                  have r8 : W9.cell? ⟨w.heap.size, 8, none⟩ = some (.int .u64 (x.size : Nat)) := k9.cell 8
                  have r9 : W9.cell? ⟨w.heap.size, 9, none⟩ = some (.int .u64 (x.crc : Nat)) := k9.cell 9
                  have r10 : W9.cell? ⟨w.heap.size, 10, none⟩ = some (.string x.name) := k9.cell 10
                  have r11 : W9.cell? ⟨w.heap.size, 11, none⟩ = some (.string x.to) := k9.cell 11
                  clear k9
                  have B9 := Lib.hid b9
                  clear b9
                  simp [bodyPost, results, Try.results21, go_sem, Rc.cells, r0, r1, r2, r3, r4, r5, r6, r7, r8, r9, r10, r11]
                  exact B9.out
                · have b9 : ((k : Int) == 9) = false := by simp; omega
                  by_cases h10 : k = 10
                  · subst h10
                    refine ⟨(⟨10, 1, 2, 3, 0, 0, 0, 0, 0, 0, ⟨#[97, 98]⟩, ⟨#[]⟩⟩ : Rc), ⟨(by decide : (10 : Nat) < 256), (by decide : (1 : Nat) < 18446744073709551616), (by decide : (2 : Nat) < 18446744073709551616), (by decide : (3 : Nat) < 18446744073709551616), (by decide : (0 : Nat) < 18446744073709551616), (by decide : (0 : Nat) < 18446744073709551616), (by decide : (0 : Nat) < 18446744073709551616), (by decide : (0 : Nat) < 18446744073709551616), (by decide : (0 : Nat) < 18446744073709551616), (by decide : (0 : Nat) < 18446744073709551616), (by decide : (⟨#[97, 98]⟩ : ByteArray).size ≤ maxLen), (by decide : (⟨#[]⟩ : ByteArray).size ≤ maxLen)⟩, (by decide : (⟨#[97, 98]⟩ : ByteArray).size ≤ 2), (by decide : (⟨#[]⟩ : ByteArray).size ≤ 2), fun w => ?_⟩
                    have V0 := Lib.hid ((Whole.new w 24 #[.int .u8 0, .int .u64 0, .int .u64 0, .int .u64 0, .int .u64 0, .int .u64 0, .int .u64 0, .int .u64 0, .int .u64 0, .int .u64 0, .string ⟨#[]⟩, .string ⟨#[]⟩]).alloc (.cells #[.int .u8 0, .int .u64 0, .int .u64 0, .int .u64 0, .int .u64 0, .int .u64 0, .int .u64 0, .int .u64 0, .int .u64 0, .int .u64 0, .string ⟨#[]⟩, .string ⟨#[]⟩] 24))
                    have hz : (w.alloc (.cells #[.int .u8 0, .int .u64 0, .int .u64 0, .int .u64 0, .int .u64 0, .int .u64 0, .int .u64 0, .int .u64 0, .int .u64 0, .int .u64 0, .string ⟨#[]⟩, .string ⟨#[]⟩] 24)).heap.size = w.heap.size + 1 := by simp
                    have V1 : Whole ((w.alloc (.cells #[.int .u8 0, .int .u64 0, .int .u64 0, .int .u64 0, .int .u64 0, .int .u64 0, .int .u64 0, .int .u64 0, .int .u64 0, .int .u64 0, .string ⟨#[]⟩, .string ⟨#[]⟩] 24)).alloc (.cells #[.int .u8 0, .int .u64 0, .int .u64 0, .int .u64 0, .int .u64 0, .int .u64 0, .int .u64 0, .int .u64 0, .int .u64 0, .int .u64 0, .string ⟨#[]⟩, .string ⟨#[]⟩] 24)) (w.heap.size + 1) 24 #[.int .u8 0, .int .u64 0, .int .u64 0, .int .u64 0, .int .u64 0, .int .u64 0, .int .u64 0, .int .u64 0, .int .u64 0, .int .u64 0, .string ⟨#[]⟩, .string ⟨#[]⟩] := by rw [← hz]; exact Whole.new _ _ _
                    have HB := Lib.hid ((belowK w (.cells #[.int .u8 0, .int .u64 0, .int .u64 0, .int .u64 0, .int .u64 0, .int .u64 0, .int .u64 0, .int .u64 0, .int .u64 0, .int .u64 0, .string ⟨#[]⟩, .string ⟨#[]⟩] 24)).trans ((belowK (w.alloc (.cells #[.int .u8 0, .int .u64 0, .int .u64 0, .int .u64 0, .int .u64 0, .int .u64 0, .int .u64 0, .int .u64 0, .int .u64 0, .int .u64 0, .string ⟨#[]⟩, .string ⟨#[]⟩] 24)) (.cells #[.int .u8 0, .int .u64 0, .int .u64 0, .int .u64 0, .int .u64 0, .int .u64 0, .int .u64 0, .int .u64 0, .int .u64 0, .int .u64 0, .string ⟨#[]⟩, .string ⟨#[]⟩] 24)).mono (by rw [hz]; omega)))
                    have V1' := Lib.hid V1
                    have KS := Lib.hid (V1.row (⟨10, 1, 2, 3, 0, 0, 0, 0, 0, 0, ⟨#[]⟩, ⟨#[]⟩⟩ : Rc).cells)
                    have VS := Lib.hid (V0.out.row_far (k := w.heap.size + 1) (by omega) (⟨10, 1, 2, 3, 0, 0, 0, 0, 0, 0, ⟨#[]⟩, ⟨#[]⟩⟩ : Rc).cells)
                    have BS := Lib.hid (Below.setRow HB.out (g := w.heap.size + 1) (by omega) (⟨10, 1, 2, 3, 0, 0, 0, 0, 0, 0, ⟨#[]⟩, ⟨#[]⟩⟩ : Rc).cells)
                    clear V1 hz HB V0
                    obtain ⟨x, hx⟩ : ∃ x : Rc, (⟨10, 1, 2, 3, 0, 0, 0, 0, 0, 0, ⟨#[97, 98]⟩, ⟨#[]⟩⟩ : Rc) = x := ⟨_, rfl⟩
                    have HX := Lib.hid hx
                    rw [hx]
                    clear hx
                    go_enter Try.func21, Try.ntmps21
                    go_wp2_with (first
                      | (refine wpList_store_row rfl 24 (.tmp 3) (.tmp 5) rfl (w.heap.size + 1) (⟨10, 1, 2, 3, 0, 0, 0, 0, 0, 0, ⟨#[]⟩, ⟨#[]⟩⟩ : Rc).cells rfl rfl 24 _ V1'.out (rec_size _) rfl (rec_cells _) ?_; generalize (World.setRow ((w.alloc (.cells #[.int .u8 0, .int .u64 0, .int .u64 0, .int .u64 0, .int .u64 0, .int .u64 0, .int .u64 0, .int .u64 0, .int .u64 0, .int .u64 0, .string ⟨#[]⟩, .string ⟨#[]⟩] 24)).alloc (.cells #[.int .u8 0, .int .u64 0, .int .u64 0, .int .u64 0, .int .u64 0, .int .u64 0, .int .u64 0, .int .u64 0, .int .u64 0, .int .u64 0, .string ⟨#[]⟩, .string ⟨#[]⟩] 24)) (w.heap.size + 1) (⟨10, 1, 2, 3, 0, 0, 0, 0, 0, 0, ⟨#[]⟩, ⟨#[]⟩⟩ : Rc).cells) = W2 at KS VS BS ⊢; have fz0 := KS.out.frozen 10; have cv0 : W2.cell? ⟨w.heap.size + 1, 10, none⟩ = some (.string ⟨#[]⟩) := KS.out.cell 10; have K1 := Lib.hid (show Whole (W2.setCell ⟨w.heap.size + 1, 10, none⟩ (.string ⟨#[97, 98]⟩)) (w.heap.size + 1) 24 (⟨10, 1, 2, 3, 0, 0, 0, 0, 0, 0, ⟨#[97, 98]⟩, ⟨#[]⟩⟩ : Rc).cells from KS.out.put_ 10 (.string ⟨#[97, 98]⟩)); have VF := Lib.hid (VS.out.far (p := ⟨w.heap.size + 1, 10, none⟩) (by simp) (.string ⟨#[97, 98]⟩)); have BF := Lib.hid (BS.out.setCell (p := ⟨w.heap.size + 1, 10, none⟩) (by simp) (.string ⟨#[97, 98]⟩)))
                      | (refine wpList_load_row rfl 24 (.tmp 3) rfl (w.heap.size + 1) rfl 24 x.cells (0, 0) _ ?_ Try.underlying24 rfl (rec_size _) ?_; · rw [← HX.out]; exact K1.out)
                      | (refine wpList_store_row rfl 24 (.tmp 2) (.tmp 39) rfl w.heap.size x.cells rfl rfl 24 _ VF.out (rec_size _) rfl (rec_cells _) ?_))
                    have k9 := VF.out.row x.cells
                    have b9 := Below.setRow BF.out (g := w.heap.size) (by omega) x.cells
                    generalize World.setRow (W2.setCell ⟨w.heap.size + 1, 10, none⟩ (.string ⟨#[97, 98]⟩)) (w.heap.size) x.cells = W9 at k9 b9 ⊢
                    have r0 : W9.cell? ⟨w.heap.size, 0, none⟩ = some (.int .u8 (x.k : Nat)) := k9.cell 0
                    have r1 : W9.cell? ⟨w.heap.size, 1, none⟩ = some (.int .u64 (x.proc : Nat)) := k9.cell 1
                    have r2 : W9.cell? ⟨w.heap.size, 2, none⟩ = some (.int .u64 (x.inc : Nat)) := k9.cell 2
                    have r3 : W9.cell? ⟨w.heap.size, 3, none⟩ = some (.int .u64 (x.seq : Nat)) := k9.cell 3
                    have r4 : W9.cell? ⟨w.heap.size, 4, none⟩ = some (.int .u64 (x.epoch : Nat)) := k9.cell 4
                    have r5 : W9.cell? ⟨w.heap.size, 5, none⟩ = some (.int .u64 (x.until_ : Nat)) := k9.cell 5
                    have r6 : W9.cell? ⟨w.heap.size, 6, none⟩ = some (.int .u64 (x.version : Nat)) := k9.cell 6
                    have r7 : W9.cell? ⟨w.heap.size, 7, none⟩ = some (.int .u64 (x.clock : Nat)) := k9.cell 7
                    have r8 : W9.cell? ⟨w.heap.size, 8, none⟩ = some (.int .u64 (x.size : Nat)) := k9.cell 8
                    have r9 : W9.cell? ⟨w.heap.size, 9, none⟩ = some (.int .u64 (x.crc : Nat)) := k9.cell 9
                    have r10 : W9.cell? ⟨w.heap.size, 10, none⟩ = some (.string x.name) := k9.cell 10
                    have r11 : W9.cell? ⟨w.heap.size, 11, none⟩ = some (.string x.to) := k9.cell 11
                    clear k9
                    have B9 := Lib.hid b9
                    clear b9
                    simp [bodyPost, results, Try.results21, go_sem, Rc.cells, r0, r1, r2, r3, r4, r5, r6, r7, r8, r9, r10, r11]
                    exact B9.out
                  · have b10 : ((k : Int) == 10) = false := by simp; omega
                    by_cases h11 : k = 11
                    · subst h11
                      refine ⟨(⟨11, 1, 2, 3, 0, 0, 0, 0, 0, 0, ⟨#[97, 98]⟩, ⟨#[99]⟩⟩ : Rc), ⟨(by decide : (11 : Nat) < 256), (by decide : (1 : Nat) < 18446744073709551616), (by decide : (2 : Nat) < 18446744073709551616), (by decide : (3 : Nat) < 18446744073709551616), (by decide : (0 : Nat) < 18446744073709551616), (by decide : (0 : Nat) < 18446744073709551616), (by decide : (0 : Nat) < 18446744073709551616), (by decide : (0 : Nat) < 18446744073709551616), (by decide : (0 : Nat) < 18446744073709551616), (by decide : (0 : Nat) < 18446744073709551616), (by decide : (⟨#[97, 98]⟩ : ByteArray).size ≤ maxLen), (by decide : (⟨#[99]⟩ : ByteArray).size ≤ maxLen)⟩, (by decide : (⟨#[97, 98]⟩ : ByteArray).size ≤ 2), (by decide : (⟨#[99]⟩ : ByteArray).size ≤ 2), fun w => ?_⟩
                      have V0 := Lib.hid ((Whole.new w 24 #[.int .u8 0, .int .u64 0, .int .u64 0, .int .u64 0, .int .u64 0, .int .u64 0, .int .u64 0, .int .u64 0, .int .u64 0, .int .u64 0, .string ⟨#[]⟩, .string ⟨#[]⟩]).alloc (.cells #[.int .u8 0, .int .u64 0, .int .u64 0, .int .u64 0, .int .u64 0, .int .u64 0, .int .u64 0, .int .u64 0, .int .u64 0, .int .u64 0, .string ⟨#[]⟩, .string ⟨#[]⟩] 24))
                      have hz : (w.alloc (.cells #[.int .u8 0, .int .u64 0, .int .u64 0, .int .u64 0, .int .u64 0, .int .u64 0, .int .u64 0, .int .u64 0, .int .u64 0, .int .u64 0, .string ⟨#[]⟩, .string ⟨#[]⟩] 24)).heap.size = w.heap.size + 1 := by simp
                      have V1 : Whole ((w.alloc (.cells #[.int .u8 0, .int .u64 0, .int .u64 0, .int .u64 0, .int .u64 0, .int .u64 0, .int .u64 0, .int .u64 0, .int .u64 0, .int .u64 0, .string ⟨#[]⟩, .string ⟨#[]⟩] 24)).alloc (.cells #[.int .u8 0, .int .u64 0, .int .u64 0, .int .u64 0, .int .u64 0, .int .u64 0, .int .u64 0, .int .u64 0, .int .u64 0, .int .u64 0, .string ⟨#[]⟩, .string ⟨#[]⟩] 24)) (w.heap.size + 1) 24 #[.int .u8 0, .int .u64 0, .int .u64 0, .int .u64 0, .int .u64 0, .int .u64 0, .int .u64 0, .int .u64 0, .int .u64 0, .int .u64 0, .string ⟨#[]⟩, .string ⟨#[]⟩] := by rw [← hz]; exact Whole.new _ _ _
                      have HB := Lib.hid ((belowK w (.cells #[.int .u8 0, .int .u64 0, .int .u64 0, .int .u64 0, .int .u64 0, .int .u64 0, .int .u64 0, .int .u64 0, .int .u64 0, .int .u64 0, .string ⟨#[]⟩, .string ⟨#[]⟩] 24)).trans ((belowK (w.alloc (.cells #[.int .u8 0, .int .u64 0, .int .u64 0, .int .u64 0, .int .u64 0, .int .u64 0, .int .u64 0, .int .u64 0, .int .u64 0, .int .u64 0, .string ⟨#[]⟩, .string ⟨#[]⟩] 24)) (.cells #[.int .u8 0, .int .u64 0, .int .u64 0, .int .u64 0, .int .u64 0, .int .u64 0, .int .u64 0, .int .u64 0, .int .u64 0, .int .u64 0, .string ⟨#[]⟩, .string ⟨#[]⟩] 24)).mono (by rw [hz]; omega)))
                      have V1' := Lib.hid V1
                      have KS := Lib.hid (V1.row (⟨11, 1, 2, 3, 0, 0, 0, 0, 0, 0, ⟨#[]⟩, ⟨#[]⟩⟩ : Rc).cells)
                      have VS := Lib.hid (V0.out.row_far (k := w.heap.size + 1) (by omega) (⟨11, 1, 2, 3, 0, 0, 0, 0, 0, 0, ⟨#[]⟩, ⟨#[]⟩⟩ : Rc).cells)
                      have BS := Lib.hid (Below.setRow HB.out (g := w.heap.size + 1) (by omega) (⟨11, 1, 2, 3, 0, 0, 0, 0, 0, 0, ⟨#[]⟩, ⟨#[]⟩⟩ : Rc).cells)
                      clear V1 hz HB V0
                      obtain ⟨x, hx⟩ : ∃ x : Rc, (⟨11, 1, 2, 3, 0, 0, 0, 0, 0, 0, ⟨#[97, 98]⟩, ⟨#[99]⟩⟩ : Rc) = x := ⟨_, rfl⟩
                      have HX := Lib.hid hx
                      rw [hx]
                      clear hx
                      go_enter Try.func21, Try.ntmps21
                      go_wp2_with (first
                        | (refine wpList_store_row rfl 24 (.tmp 3) (.tmp 5) rfl (w.heap.size + 1) (⟨11, 1, 2, 3, 0, 0, 0, 0, 0, 0, ⟨#[]⟩, ⟨#[]⟩⟩ : Rc).cells rfl rfl 24 _ V1'.out (rec_size _) rfl (rec_cells _) ?_; generalize (World.setRow ((w.alloc (.cells #[.int .u8 0, .int .u64 0, .int .u64 0, .int .u64 0, .int .u64 0, .int .u64 0, .int .u64 0, .int .u64 0, .int .u64 0, .int .u64 0, .string ⟨#[]⟩, .string ⟨#[]⟩] 24)).alloc (.cells #[.int .u8 0, .int .u64 0, .int .u64 0, .int .u64 0, .int .u64 0, .int .u64 0, .int .u64 0, .int .u64 0, .int .u64 0, .int .u64 0, .string ⟨#[]⟩, .string ⟨#[]⟩] 24)) (w.heap.size + 1) (⟨11, 1, 2, 3, 0, 0, 0, 0, 0, 0, ⟨#[]⟩, ⟨#[]⟩⟩ : Rc).cells) = W2 at KS VS BS ⊢; have fz0 := KS.out.frozen 10; have cv0 : W2.cell? ⟨w.heap.size + 1, 10, none⟩ = some (.string ⟨#[]⟩) := KS.out.cell 10; have K1 := Lib.hid (show Whole (W2.setCell ⟨w.heap.size + 1, 10, none⟩ (.string ⟨#[97, 98]⟩)) (w.heap.size + 1) 24 (⟨11, 1, 2, 3, 0, 0, 0, 0, 0, 0, ⟨#[97, 98]⟩, ⟨#[]⟩⟩ : Rc).cells from KS.out.put_ 10 (.string ⟨#[97, 98]⟩)); have fz1 := KS.out.frozen 11; have cv1 : W2.cell? ⟨w.heap.size + 1, 11, none⟩ = some (.string ⟨#[]⟩) := KS.out.cell 11; have K2 := Lib.hid (show Whole ((W2.setCell ⟨w.heap.size + 1, 10, none⟩ (.string ⟨#[97, 98]⟩)).setCell ⟨w.heap.size + 1, 11, none⟩ (.string ⟨#[99]⟩)) (w.heap.size + 1) 24 (⟨11, 1, 2, 3, 0, 0, 0, 0, 0, 0, ⟨#[97, 98]⟩, ⟨#[99]⟩⟩ : Rc).cells from K1.out.put_ 11 (.string ⟨#[99]⟩)); have VF := Lib.hid ((VS.out.far (p := ⟨w.heap.size + 1, 10, none⟩) (by simp) (.string ⟨#[97, 98]⟩)).far (p := ⟨w.heap.size + 1, 11, none⟩) (by simp) (.string ⟨#[99]⟩)); have BF := Lib.hid ((BS.out.setCell (p := ⟨w.heap.size + 1, 10, none⟩) (by simp) (.string ⟨#[97, 98]⟩)).setCell (p := ⟨w.heap.size + 1, 11, none⟩) (by simp) (.string ⟨#[99]⟩)))
                        | (refine wpList_load_row rfl 24 (.tmp 3) rfl (w.heap.size + 1) rfl 24 x.cells (0, 0) _ ?_ Try.underlying24 rfl (rec_size _) ?_; · rw [← HX.out]; exact K2.out)
                        | (refine wpList_store_row rfl 24 (.tmp 2) (.tmp 39) rfl w.heap.size x.cells rfl rfl 24 _ VF.out (rec_size _) rfl (rec_cells _) ?_))
                      have k9 := VF.out.row x.cells
                      have b9 := Below.setRow BF.out (g := w.heap.size) (by omega) x.cells
                      generalize World.setRow ((W2.setCell ⟨w.heap.size + 1, 10, none⟩ (.string ⟨#[97, 98]⟩)).setCell ⟨w.heap.size + 1, 11, none⟩ (.string ⟨#[99]⟩)) (w.heap.size) x.cells = W9 at k9 b9 ⊢
                      have r0 : W9.cell? ⟨w.heap.size, 0, none⟩ = some (.int .u8 (x.k : Nat)) := k9.cell 0
                      have r1 : W9.cell? ⟨w.heap.size, 1, none⟩ = some (.int .u64 (x.proc : Nat)) := k9.cell 1
                      have r2 : W9.cell? ⟨w.heap.size, 2, none⟩ = some (.int .u64 (x.inc : Nat)) := k9.cell 2
                      have r3 : W9.cell? ⟨w.heap.size, 3, none⟩ = some (.int .u64 (x.seq : Nat)) := k9.cell 3
                      have r4 : W9.cell? ⟨w.heap.size, 4, none⟩ = some (.int .u64 (x.epoch : Nat)) := k9.cell 4
                      have r5 : W9.cell? ⟨w.heap.size, 5, none⟩ = some (.int .u64 (x.until_ : Nat)) := k9.cell 5
                      have r6 : W9.cell? ⟨w.heap.size, 6, none⟩ = some (.int .u64 (x.version : Nat)) := k9.cell 6
                      have r7 : W9.cell? ⟨w.heap.size, 7, none⟩ = some (.int .u64 (x.clock : Nat)) := k9.cell 7
                      have r8 : W9.cell? ⟨w.heap.size, 8, none⟩ = some (.int .u64 (x.size : Nat)) := k9.cell 8
                      have r9 : W9.cell? ⟨w.heap.size, 9, none⟩ = some (.int .u64 (x.crc : Nat)) := k9.cell 9
                      have r10 : W9.cell? ⟨w.heap.size, 10, none⟩ = some (.string x.name) := k9.cell 10
                      have r11 : W9.cell? ⟨w.heap.size, 11, none⟩ = some (.string x.to) := k9.cell 11
                      clear k9
                      have B9 := Lib.hid b9
                      clear b9
                      simp [bodyPost, results, Try.results21, go_sem, Rc.cells, r0, r1, r2, r3, r4, r5, r6, r7, r8, r9, r10, r11]
                      exact B9.out
                    · have b11 : ((k : Int) == 11) = false := by simp; omega
                      refine ⟨(⟨k, 1, 2, 3, 0, 0, 0, 0, 0, 0, ⟨#[]⟩, ⟨#[]⟩⟩ : Rc), ⟨hk, (by decide : (1 : Nat) < 18446744073709551616), (by decide : (2 : Nat) < 18446744073709551616), (by decide : (3 : Nat) < 18446744073709551616), (by decide : (0 : Nat) < 18446744073709551616), (by decide : (0 : Nat) < 18446744073709551616), (by decide : (0 : Nat) < 18446744073709551616), (by decide : (0 : Nat) < 18446744073709551616), (by decide : (0 : Nat) < 18446744073709551616), (by decide : (0 : Nat) < 18446744073709551616), (by decide : (⟨#[]⟩ : ByteArray).size ≤ maxLen), (by decide : (⟨#[]⟩ : ByteArray).size ≤ maxLen)⟩, (by decide : (⟨#[]⟩ : ByteArray).size ≤ 2), (by decide : (⟨#[]⟩ : ByteArray).size ≤ 2), fun w => ?_⟩
                      have V0 := Lib.hid ((Whole.new w 24 #[.int .u8 0, .int .u64 0, .int .u64 0, .int .u64 0, .int .u64 0, .int .u64 0, .int .u64 0, .int .u64 0, .int .u64 0, .int .u64 0, .string ⟨#[]⟩, .string ⟨#[]⟩]).alloc (.cells #[.int .u8 0, .int .u64 0, .int .u64 0, .int .u64 0, .int .u64 0, .int .u64 0, .int .u64 0, .int .u64 0, .int .u64 0, .int .u64 0, .string ⟨#[]⟩, .string ⟨#[]⟩] 24))
                      have hz : (w.alloc (.cells #[.int .u8 0, .int .u64 0, .int .u64 0, .int .u64 0, .int .u64 0, .int .u64 0, .int .u64 0, .int .u64 0, .int .u64 0, .int .u64 0, .string ⟨#[]⟩, .string ⟨#[]⟩] 24)).heap.size = w.heap.size + 1 := by simp
                      have V1 : Whole ((w.alloc (.cells #[.int .u8 0, .int .u64 0, .int .u64 0, .int .u64 0, .int .u64 0, .int .u64 0, .int .u64 0, .int .u64 0, .int .u64 0, .int .u64 0, .string ⟨#[]⟩, .string ⟨#[]⟩] 24)).alloc (.cells #[.int .u8 0, .int .u64 0, .int .u64 0, .int .u64 0, .int .u64 0, .int .u64 0, .int .u64 0, .int .u64 0, .int .u64 0, .int .u64 0, .string ⟨#[]⟩, .string ⟨#[]⟩] 24)) (w.heap.size + 1) 24 #[.int .u8 0, .int .u64 0, .int .u64 0, .int .u64 0, .int .u64 0, .int .u64 0, .int .u64 0, .int .u64 0, .int .u64 0, .int .u64 0, .string ⟨#[]⟩, .string ⟨#[]⟩] := by rw [← hz]; exact Whole.new _ _ _
                      have HB := Lib.hid ((belowK w (.cells #[.int .u8 0, .int .u64 0, .int .u64 0, .int .u64 0, .int .u64 0, .int .u64 0, .int .u64 0, .int .u64 0, .int .u64 0, .int .u64 0, .string ⟨#[]⟩, .string ⟨#[]⟩] 24)).trans ((belowK (w.alloc (.cells #[.int .u8 0, .int .u64 0, .int .u64 0, .int .u64 0, .int .u64 0, .int .u64 0, .int .u64 0, .int .u64 0, .int .u64 0, .int .u64 0, .string ⟨#[]⟩, .string ⟨#[]⟩] 24)) (.cells #[.int .u8 0, .int .u64 0, .int .u64 0, .int .u64 0, .int .u64 0, .int .u64 0, .int .u64 0, .int .u64 0, .int .u64 0, .int .u64 0, .string ⟨#[]⟩, .string ⟨#[]⟩] 24)).mono (by rw [hz]; omega)))
                      have V1' := Lib.hid V1
                      have KS := Lib.hid (V1.row (⟨k, 1, 2, 3, 0, 0, 0, 0, 0, 0, ⟨#[]⟩, ⟨#[]⟩⟩ : Rc).cells)
                      have VS := Lib.hid (V0.out.row_far (k := w.heap.size + 1) (by omega) (⟨k, 1, 2, 3, 0, 0, 0, 0, 0, 0, ⟨#[]⟩, ⟨#[]⟩⟩ : Rc).cells)
                      have BS := Lib.hid (Below.setRow HB.out (g := w.heap.size + 1) (by omega) (⟨k, 1, 2, 3, 0, 0, 0, 0, 0, 0, ⟨#[]⟩, ⟨#[]⟩⟩ : Rc).cells)
                      clear V1 hz HB V0
                      obtain ⟨x, hx⟩ : ∃ x : Rc, (⟨k, 1, 2, 3, 0, 0, 0, 0, 0, 0, ⟨#[]⟩, ⟨#[]⟩⟩ : Rc) = x := ⟨_, rfl⟩
                      have HX := Lib.hid hx
                      rw [hx]
                      clear hx
                      go_enter Try.func21, Try.ntmps21
                      go_wp2_with (first
                        | (refine wpList_store_row rfl 24 (.tmp 3) (.tmp 5) rfl (w.heap.size + 1) (⟨k, 1, 2, 3, 0, 0, 0, 0, 0, 0, ⟨#[]⟩, ⟨#[]⟩⟩ : Rc).cells rfl rfl 24 _ V1'.out (rec_size _) rfl (rec_cells _) ?_; generalize (World.setRow ((w.alloc (.cells #[.int .u8 0, .int .u64 0, .int .u64 0, .int .u64 0, .int .u64 0, .int .u64 0, .int .u64 0, .int .u64 0, .int .u64 0, .int .u64 0, .string ⟨#[]⟩, .string ⟨#[]⟩] 24)).alloc (.cells #[.int .u8 0, .int .u64 0, .int .u64 0, .int .u64 0, .int .u64 0, .int .u64 0, .int .u64 0, .int .u64 0, .int .u64 0, .int .u64 0, .string ⟨#[]⟩, .string ⟨#[]⟩] 24)) (w.heap.size + 1) (⟨k, 1, 2, 3, 0, 0, 0, 0, 0, 0, ⟨#[]⟩, ⟨#[]⟩⟩ : Rc).cells) = W2 at KS VS BS ⊢; have VF := Lib.hid VS.out; have BF := Lib.hid BS.out)
                        | (refine wpList_load_row rfl 24 (.tmp 3) rfl (w.heap.size + 1) rfl 24 x.cells (0, 0) _ ?_ Try.underlying24 rfl (rec_size _) ?_; · rw [← HX.out]; exact KS.out)
                        | (refine wpList_store_row rfl 24 (.tmp 2) (.tmp 39) rfl w.heap.size x.cells rfl rfl 24 _ VF.out (rec_size _) rfl (rec_cells _) ?_))
                      have k9 := VF.out.row x.cells
                      have b9 := Below.setRow BF.out (g := w.heap.size) (by omega) x.cells
                      generalize World.setRow W2 (w.heap.size) x.cells = W9 at k9 b9 ⊢
                      have r0 : W9.cell? ⟨w.heap.size, 0, none⟩ = some (.int .u8 (x.k : Nat)) := k9.cell 0
                      have r1 : W9.cell? ⟨w.heap.size, 1, none⟩ = some (.int .u64 (x.proc : Nat)) := k9.cell 1
                      have r2 : W9.cell? ⟨w.heap.size, 2, none⟩ = some (.int .u64 (x.inc : Nat)) := k9.cell 2
                      have r3 : W9.cell? ⟨w.heap.size, 3, none⟩ = some (.int .u64 (x.seq : Nat)) := k9.cell 3
                      have r4 : W9.cell? ⟨w.heap.size, 4, none⟩ = some (.int .u64 (x.epoch : Nat)) := k9.cell 4
                      have r5 : W9.cell? ⟨w.heap.size, 5, none⟩ = some (.int .u64 (x.until_ : Nat)) := k9.cell 5
                      have r6 : W9.cell? ⟨w.heap.size, 6, none⟩ = some (.int .u64 (x.version : Nat)) := k9.cell 6
                      have r7 : W9.cell? ⟨w.heap.size, 7, none⟩ = some (.int .u64 (x.clock : Nat)) := k9.cell 7
                      have r8 : W9.cell? ⟨w.heap.size, 8, none⟩ = some (.int .u64 (x.size : Nat)) := k9.cell 8
                      have r9 : W9.cell? ⟨w.heap.size, 9, none⟩ = some (.int .u64 (x.crc : Nat)) := k9.cell 9
                      have r10 : W9.cell? ⟨w.heap.size, 10, none⟩ = some (.string x.name) := k9.cell 10
                      have r11 : W9.cell? ⟨w.heap.size, 11, none⟩ = some (.string x.to) := k9.cell 11
                      clear k9
                      have B9 := Lib.hid b9
                      clear b9
                      simp [bodyPost, results, Try.results21, go_sem, Rc.cells, r0, r1, r2, r3, r4, r5, r6, r7, r8, r9, r10, r11]
                      exact B9.out
end Go.Proofs.Ytmobgamlednlhaa
