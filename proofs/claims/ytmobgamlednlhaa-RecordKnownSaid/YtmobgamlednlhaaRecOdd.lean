/-
  Records: the law's odd.
-/
import Derived.Test.YtmobgamlednlhaaRecRgt
namespace Go.Proofs.Ytmobgamlednlhaa
open Go.RowKit
set_option maxRecDepth 100000 in
set_option maxHeartbeats 16000000 in
theorem odd_any (r : Rc) (hok : r.ok) (hn : r.name.size ≤ 2) (ht : r.to.size ≤ 2) (i : Nat) : ∃ x : Rc, x.ok ∧ ∀ w : World, Calls Try.prog 22 #[.agg r.cells, .int .i64 (i : Nat)] w fun en w' => en = .returned (.agg x.cells) ∧ Below w.heap.size w w' := by
  by_cases h0 : i = 0
  · subst h0
    obtain ⟨v, hv, hw⟩ : ∃ v : Nat, v < 18446744073709551616 ∧ IntKind.u64.wrap ((r.epoch : Int) + 1) = (v : Int) := ⟨(r.epoch + 1) % 18446744073709551616, by omega, by rw [IntKind.wrap_u64]; omega⟩
    refine ⟨(⟨r.k, r.proc, r.inc, r.seq, v, r.until_, r.version, r.clock, r.size, r.crc, r.name, r.to⟩ : Rc), ⟨hok.1, hok.2.1, hok.2.2.1, hok.2.2.2.1, hv, hok.2.2.2.2.2.1, hok.2.2.2.2.2.2.1, hok.2.2.2.2.2.2.2.1, hok.2.2.2.2.2.2.2.2.1, hok.2.2.2.2.2.2.2.2.2.1, hok.2.2.2.2.2.2.2.2.2.2.1, hok.2.2.2.2.2.2.2.2.2.2.2⟩, fun w => ?_⟩
    have hz : (w.alloc (.cells r.cells 24)).heap.size = w.heap.size + 1 := by simp
    have V0 : Whole ((w.alloc (.cells r.cells 24)).alloc (.cells #[.int .u8 0, .int .u64 0, .int .u64 0, .int .u64 0, .int .u64 0, .int .u64 0, .int .u64 0, .int .u64 0, .int .u64 0, .int .u64 0, .string ⟨#[]⟩, .string ⟨#[]⟩] 24)) w.heap.size 24 r.cells := (Whole.new w 24 r.cells).alloc (.cells #[.int .u8 0, .int .u64 0, .int .u64 0, .int .u64 0, .int .u64 0, .int .u64 0, .int .u64 0, .int .u64 0, .int .u64 0, .int .u64 0, .string ⟨#[]⟩, .string ⟨#[]⟩] 24)
    have V1 : Whole ((w.alloc (.cells r.cells 24)).alloc (.cells #[.int .u8 0, .int .u64 0, .int .u64 0, .int .u64 0, .int .u64 0, .int .u64 0, .int .u64 0, .int .u64 0, .int .u64 0, .int .u64 0, .string ⟨#[]⟩, .string ⟨#[]⟩] 24)) (w.heap.size + 1) 24 #[.int .u8 0, .int .u64 0, .int .u64 0, .int .u64 0, .int .u64 0, .int .u64 0, .int .u64 0, .int .u64 0, .int .u64 0, .int .u64 0, .string ⟨#[]⟩, .string ⟨#[]⟩] := by rw [← hz]; exact Whole.new _ _ _
    have HB := (belowK w (.cells r.cells 24)).trans ((belowK (w.alloc (.cells r.cells 24)) (.cells #[.int .u8 0, .int .u64 0, .int .u64 0, .int .u64 0, .int .u64 0, .int .u64 0, .int .u64 0, .int .u64 0, .int .u64 0, .int .u64 0, .string ⟨#[]⟩, .string ⟨#[]⟩] 24)).mono (by rw [hz]; omega))
    have fz := V0.frozen 4
    have cv : ((w.alloc (.cells r.cells 24)).alloc (.cells #[.int .u8 0, .int .u64 0, .int .u64 0, .int .u64 0, .int .u64 0, .int .u64 0, .int .u64 0, .int .u64 0, .int .u64 0, .int .u64 0, .string ⟨#[]⟩, .string ⟨#[]⟩] 24)).cell? ⟨w.heap.size, 4, none⟩ = some (.int .u64 (r.epoch : Nat)) := V0.cell 4
    have hz2 : (w.alloc (.cells (r.cells.setIfInBounds 4 (.int .u64 (v : Nat))) 24)).heap.size = w.heap.size + 1 := by simp
    have K1 := Lib.hid (show Whole ((w.alloc (.cells (r.cells.setIfInBounds 4 (.int .u64 (v : Nat))) 24)).alloc (.cells #[.int .u8 0, .int .u64 0, .int .u64 0, .int .u64 0, .int .u64 0, .int .u64 0, .int .u64 0, .int .u64 0, .int .u64 0, .int .u64 0, .string ⟨#[]⟩, .string ⟨#[]⟩] 24)) w.heap.size 24 (r.cells.setIfInBounds 4 (.int .u64 (v : Nat))) from (Whole.new w 24 (r.cells.setIfInBounds 4 (.int .u64 (v : Nat)))).alloc (.cells #[.int .u8 0, .int .u64 0, .int .u64 0, .int .u64 0, .int .u64 0, .int .u64 0, .int .u64 0, .int .u64 0, .int .u64 0, .int .u64 0, .string ⟨#[]⟩, .string ⟨#[]⟩] 24))
    have VF := Lib.hid (show Whole ((w.alloc (.cells (r.cells.setIfInBounds 4 (.int .u64 (v : Nat))) 24)).alloc (.cells #[.int .u8 0, .int .u64 0, .int .u64 0, .int .u64 0, .int .u64 0, .int .u64 0, .int .u64 0, .int .u64 0, .int .u64 0, .int .u64 0, .string ⟨#[]⟩, .string ⟨#[]⟩] 24)) (w.heap.size + 1) 24 #[.int .u8 0, .int .u64 0, .int .u64 0, .int .u64 0, .int .u64 0, .int .u64 0, .int .u64 0, .int .u64 0, .int .u64 0, .int .u64 0, .string ⟨#[]⟩, .string ⟨#[]⟩] by rw [← hz2]; exact Whole.new _ _ _)
    have BF := Lib.hid ((belowK w (.cells (r.cells.setIfInBounds 4 (.int .u64 (v : Nat))) 24)).trans ((belowK (w.alloc (.cells (r.cells.setIfInBounds 4 (.int .u64 (v : Nat))) 24)) (.cells #[.int .u8 0, .int .u64 0, .int .u64 0, .int .u64 0, .int .u64 0, .int .u64 0, .int .u64 0, .int .u64 0, .int .u64 0, .int .u64 0, .string ⟨#[]⟩, .string ⟨#[]⟩] 24)).mono (by rw [hz2]; omega)))
    clear hz2
    clear V0 V1 HB hz hok hv
    obtain ⟨x, hx⟩ : ∃ x : Rc, (⟨r.k, r.proc, r.inc, r.seq, v, r.until_, r.version, r.clock, r.size, r.crc, r.name, r.to⟩ : Rc) = x := ⟨_, rfl⟩
    have HX := Lib.hid hx
    rw [hx]
    clear hx
    go_enter Try.func22, Try.ntmps22
    go_wp2_with (first
      | (refine wpList_load_row rfl 24 (.tmp 2) rfl w.heap.size rfl 24 x.cells (0, 0) _ ?_ Try.underlying24 rfl (rec_size _) ?_; · rw [← HX.out]; exact K1.out)
      | (refine wpList_store_row rfl 24 (.tmp 4) (.tmp 77) rfl (w.heap.size + 1) x.cells rfl rfl 24 _ VF.out (rec_size _) rfl (rec_cells _) ?_))
    have k9 := VF.out.row x.cells
    have b9 := Below.setRow BF.out (g := w.heap.size + 1) (by omega) x.cells
    generalize World.setRow ((w.alloc (.cells (r.cells.setIfInBounds 4 (.int .u64 (v : Nat))) 24)).alloc (.cells #[.int .u8 0, .int .u64 0, .int .u64 0, .int .u64 0, .int .u64 0, .int .u64 0, .int .u64 0, .int .u64 0, .int .u64 0, .int .u64 0, .string ⟨#[]⟩, .string ⟨#[]⟩] 24)) (w.heap.size + 1) x.cells = W9 at k9 b9 ⊢
    have r0 : W9.cell? ⟨w.heap.size + 1, 0, none⟩ = some (.int .u8 (x.k : Nat)) := k9.cell 0
    have r1 : W9.cell? ⟨w.heap.size + 1, 1, none⟩ = some (.int .u64 (x.proc : Nat)) := k9.cell 1
    have r2 : W9.cell? ⟨w.heap.size + 1, 2, none⟩ = some (.int .u64 (x.inc : Nat)) := k9.cell 2
    have r3 : W9.cell? ⟨w.heap.size + 1, 3, none⟩ = some (.int .u64 (x.seq : Nat)) := k9.cell 3
    have r4 : W9.cell? ⟨w.heap.size + 1, 4, none⟩ = some (.int .u64 (x.epoch : Nat)) := k9.cell 4
    have r5 : W9.cell? ⟨w.heap.size + 1, 5, none⟩ = some (.int .u64 (x.until_ : Nat)) := k9.cell 5
    have r6 : W9.cell? ⟨w.heap.size + 1, 6, none⟩ = some (.int .u64 (x.version : Nat)) := k9.cell 6
    have r7 : W9.cell? ⟨w.heap.size + 1, 7, none⟩ = some (.int .u64 (x.clock : Nat)) := k9.cell 7
    have r8 : W9.cell? ⟨w.heap.size + 1, 8, none⟩ = some (.int .u64 (x.size : Nat)) := k9.cell 8
    have r9 : W9.cell? ⟨w.heap.size + 1, 9, none⟩ = some (.int .u64 (x.crc : Nat)) := k9.cell 9
    have r10 : W9.cell? ⟨w.heap.size + 1, 10, none⟩ = some (.string x.name) := k9.cell 10
    have r11 : W9.cell? ⟨w.heap.size + 1, 11, none⟩ = some (.string x.to) := k9.cell 11
    clear k9
    have B9 := Lib.hid b9
    clear b9
    simp [bodyPost, results, Try.results22, go_sem, Rc.cells, r0, r1, r2, r3, r4, r5, r6, r7, r8, r9, r10, r11]
    exact B9.out
  · have b0 : ((i : Int) == 0) = false := by simp; omega
    by_cases h1 : i = 1
    · subst h1
      obtain ⟨v, hv, hw⟩ : ∃ v : Nat, v < 18446744073709551616 ∧ IntKind.u64.wrap ((r.until_ : Int) + 1) = (v : Int) := ⟨(r.until_ + 1) % 18446744073709551616, by omega, by rw [IntKind.wrap_u64]; omega⟩
      refine ⟨(⟨r.k, r.proc, r.inc, r.seq, r.epoch, v, r.version, r.clock, r.size, r.crc, r.name, r.to⟩ : Rc), ⟨hok.1, hok.2.1, hok.2.2.1, hok.2.2.2.1, hok.2.2.2.2.1, hv, hok.2.2.2.2.2.2.1, hok.2.2.2.2.2.2.2.1, hok.2.2.2.2.2.2.2.2.1, hok.2.2.2.2.2.2.2.2.2.1, hok.2.2.2.2.2.2.2.2.2.2.1, hok.2.2.2.2.2.2.2.2.2.2.2⟩, fun w => ?_⟩
      have hz : (w.alloc (.cells r.cells 24)).heap.size = w.heap.size + 1 := by simp
      have V0 : Whole ((w.alloc (.cells r.cells 24)).alloc (.cells #[.int .u8 0, .int .u64 0, .int .u64 0, .int .u64 0, .int .u64 0, .int .u64 0, .int .u64 0, .int .u64 0, .int .u64 0, .int .u64 0, .string ⟨#[]⟩, .string ⟨#[]⟩] 24)) w.heap.size 24 r.cells := (Whole.new w 24 r.cells).alloc (.cells #[.int .u8 0, .int .u64 0, .int .u64 0, .int .u64 0, .int .u64 0, .int .u64 0, .int .u64 0, .int .u64 0, .int .u64 0, .int .u64 0, .string ⟨#[]⟩, .string ⟨#[]⟩] 24)
      have V1 : Whole ((w.alloc (.cells r.cells 24)).alloc (.cells #[.int .u8 0, .int .u64 0, .int .u64 0, .int .u64 0, .int .u64 0, .int .u64 0, .int .u64 0, .int .u64 0, .int .u64 0, .int .u64 0, .string ⟨#[]⟩, .string ⟨#[]⟩] 24)) (w.heap.size + 1) 24 #[.int .u8 0, .int .u64 0, .int .u64 0, .int .u64 0, .int .u64 0, .int .u64 0, .int .u64 0, .int .u64 0, .int .u64 0, .int .u64 0, .string ⟨#[]⟩, .string ⟨#[]⟩] := by rw [← hz]; exact Whole.new _ _ _
      have HB := (belowK w (.cells r.cells 24)).trans ((belowK (w.alloc (.cells r.cells 24)) (.cells #[.int .u8 0, .int .u64 0, .int .u64 0, .int .u64 0, .int .u64 0, .int .u64 0, .int .u64 0, .int .u64 0, .int .u64 0, .int .u64 0, .string ⟨#[]⟩, .string ⟨#[]⟩] 24)).mono (by rw [hz]; omega))
      have fz := V0.frozen 5
      have cv : ((w.alloc (.cells r.cells 24)).alloc (.cells #[.int .u8 0, .int .u64 0, .int .u64 0, .int .u64 0, .int .u64 0, .int .u64 0, .int .u64 0, .int .u64 0, .int .u64 0, .int .u64 0, .string ⟨#[]⟩, .string ⟨#[]⟩] 24)).cell? ⟨w.heap.size, 5, none⟩ = some (.int .u64 (r.until_ : Nat)) := V0.cell 5
      have hz2 : (w.alloc (.cells (r.cells.setIfInBounds 5 (.int .u64 (v : Nat))) 24)).heap.size = w.heap.size + 1 := by simp
      have K1 := Lib.hid (show Whole ((w.alloc (.cells (r.cells.setIfInBounds 5 (.int .u64 (v : Nat))) 24)).alloc (.cells #[.int .u8 0, .int .u64 0, .int .u64 0, .int .u64 0, .int .u64 0, .int .u64 0, .int .u64 0, .int .u64 0, .int .u64 0, .int .u64 0, .string ⟨#[]⟩, .string ⟨#[]⟩] 24)) w.heap.size 24 (r.cells.setIfInBounds 5 (.int .u64 (v : Nat))) from (Whole.new w 24 (r.cells.setIfInBounds 5 (.int .u64 (v : Nat)))).alloc (.cells #[.int .u8 0, .int .u64 0, .int .u64 0, .int .u64 0, .int .u64 0, .int .u64 0, .int .u64 0, .int .u64 0, .int .u64 0, .int .u64 0, .string ⟨#[]⟩, .string ⟨#[]⟩] 24))
      have VF := Lib.hid (show Whole ((w.alloc (.cells (r.cells.setIfInBounds 5 (.int .u64 (v : Nat))) 24)).alloc (.cells #[.int .u8 0, .int .u64 0, .int .u64 0, .int .u64 0, .int .u64 0, .int .u64 0, .int .u64 0, .int .u64 0, .int .u64 0, .int .u64 0, .string ⟨#[]⟩, .string ⟨#[]⟩] 24)) (w.heap.size + 1) 24 #[.int .u8 0, .int .u64 0, .int .u64 0, .int .u64 0, .int .u64 0, .int .u64 0, .int .u64 0, .int .u64 0, .int .u64 0, .int .u64 0, .string ⟨#[]⟩, .string ⟨#[]⟩] by rw [← hz2]; exact Whole.new _ _ _)
      have BF := Lib.hid ((belowK w (.cells (r.cells.setIfInBounds 5 (.int .u64 (v : Nat))) 24)).trans ((belowK (w.alloc (.cells (r.cells.setIfInBounds 5 (.int .u64 (v : Nat))) 24)) (.cells #[.int .u8 0, .int .u64 0, .int .u64 0, .int .u64 0, .int .u64 0, .int .u64 0, .int .u64 0, .int .u64 0, .int .u64 0, .int .u64 0, .string ⟨#[]⟩, .string ⟨#[]⟩] 24)).mono (by rw [hz2]; omega)))
      clear hz2
      clear V0 V1 HB hz hok hv
      obtain ⟨x, hx⟩ : ∃ x : Rc, (⟨r.k, r.proc, r.inc, r.seq, r.epoch, v, r.version, r.clock, r.size, r.crc, r.name, r.to⟩ : Rc) = x := ⟨_, rfl⟩
      have HX := Lib.hid hx
      rw [hx]
      clear hx
      go_enter Try.func22, Try.ntmps22
      go_wp2_with (first
        | (refine wpList_load_row rfl 24 (.tmp 2) rfl w.heap.size rfl 24 x.cells (0, 0) _ ?_ Try.underlying24 rfl (rec_size _) ?_; · rw [← HX.out]; exact K1.out)
        | (refine wpList_store_row rfl 24 (.tmp 4) (.tmp 77) rfl (w.heap.size + 1) x.cells rfl rfl 24 _ VF.out (rec_size _) rfl (rec_cells _) ?_))
      have k9 := VF.out.row x.cells
      have b9 := Below.setRow BF.out (g := w.heap.size + 1) (by omega) x.cells
      generalize World.setRow ((w.alloc (.cells (r.cells.setIfInBounds 5 (.int .u64 (v : Nat))) 24)).alloc (.cells #[.int .u8 0, .int .u64 0, .int .u64 0, .int .u64 0, .int .u64 0, .int .u64 0, .int .u64 0, .int .u64 0, .int .u64 0, .int .u64 0, .string ⟨#[]⟩, .string ⟨#[]⟩] 24)) (w.heap.size + 1) x.cells = W9 at k9 b9 ⊢
      have r0 : W9.cell? ⟨w.heap.size + 1, 0, none⟩ = some (.int .u8 (x.k : Nat)) := k9.cell 0
      have r1 : W9.cell? ⟨w.heap.size + 1, 1, none⟩ = some (.int .u64 (x.proc : Nat)) := k9.cell 1
      have r2 : W9.cell? ⟨w.heap.size + 1, 2, none⟩ = some (.int .u64 (x.inc : Nat)) := k9.cell 2
      have r3 : W9.cell? ⟨w.heap.size + 1, 3, none⟩ = some (.int .u64 (x.seq : Nat)) := k9.cell 3
      have r4 : W9.cell? ⟨w.heap.size + 1, 4, none⟩ = some (.int .u64 (x.epoch : Nat)) := k9.cell 4
      have r5 : W9.cell? ⟨w.heap.size + 1, 5, none⟩ = some (.int .u64 (x.until_ : Nat)) := k9.cell 5
      have r6 : W9.cell? ⟨w.heap.size + 1, 6, none⟩ = some (.int .u64 (x.version : Nat)) := k9.cell 6
      have r7 : W9.cell? ⟨w.heap.size + 1, 7, none⟩ = some (.int .u64 (x.clock : Nat)) := k9.cell 7
      have r8 : W9.cell? ⟨w.heap.size + 1, 8, none⟩ = some (.int .u64 (x.size : Nat)) := k9.cell 8
      have r9 : W9.cell? ⟨w.heap.size + 1, 9, none⟩ = some (.int .u64 (x.crc : Nat)) := k9.cell 9
      have r10 : W9.cell? ⟨w.heap.size + 1, 10, none⟩ = some (.string x.name) := k9.cell 10
      have r11 : W9.cell? ⟨w.heap.size + 1, 11, none⟩ = some (.string x.to) := k9.cell 11
      clear k9
      have B9 := Lib.hid b9
      clear b9
      simp [bodyPost, results, Try.results22, go_sem, Rc.cells, r0, r1, r2, r3, r4, r5, r6, r7, r8, r9, r10, r11]
      exact B9.out
    · have b1 : ((i : Int) == 1) = false := by simp; omega
      by_cases h2 : i = 2
      · subst h2
        obtain ⟨v, hv, hw⟩ : ∃ v : Nat, v < 18446744073709551616 ∧ IntKind.u64.wrap ((r.version : Int) + 1) = (v : Int) := ⟨(r.version + 1) % 18446744073709551616, by omega, by rw [IntKind.wrap_u64]; omega⟩
        refine ⟨(⟨r.k, r.proc, r.inc, r.seq, r.epoch, r.until_, v, r.clock, r.size, r.crc, r.name, r.to⟩ : Rc), ⟨hok.1, hok.2.1, hok.2.2.1, hok.2.2.2.1, hok.2.2.2.2.1, hok.2.2.2.2.2.1, hv, hok.2.2.2.2.2.2.2.1, hok.2.2.2.2.2.2.2.2.1, hok.2.2.2.2.2.2.2.2.2.1, hok.2.2.2.2.2.2.2.2.2.2.1, hok.2.2.2.2.2.2.2.2.2.2.2⟩, fun w => ?_⟩
        have hz : (w.alloc (.cells r.cells 24)).heap.size = w.heap.size + 1 := by simp
        have V0 : Whole ((w.alloc (.cells r.cells 24)).alloc (.cells #[.int .u8 0, .int .u64 0, .int .u64 0, .int .u64 0, .int .u64 0, .int .u64 0, .int .u64 0, .int .u64 0, .int .u64 0, .int .u64 0, .string ⟨#[]⟩, .string ⟨#[]⟩] 24)) w.heap.size 24 r.cells := (Whole.new w 24 r.cells).alloc (.cells #[.int .u8 0, .int .u64 0, .int .u64 0, .int .u64 0, .int .u64 0, .int .u64 0, .int .u64 0, .int .u64 0, .int .u64 0, .int .u64 0, .string ⟨#[]⟩, .string ⟨#[]⟩] 24)
        have V1 : Whole ((w.alloc (.cells r.cells 24)).alloc (.cells #[.int .u8 0, .int .u64 0, .int .u64 0, .int .u64 0, .int .u64 0, .int .u64 0, .int .u64 0, .int .u64 0, .int .u64 0, .int .u64 0, .string ⟨#[]⟩, .string ⟨#[]⟩] 24)) (w.heap.size + 1) 24 #[.int .u8 0, .int .u64 0, .int .u64 0, .int .u64 0, .int .u64 0, .int .u64 0, .int .u64 0, .int .u64 0, .int .u64 0, .int .u64 0, .string ⟨#[]⟩, .string ⟨#[]⟩] := by rw [← hz]; exact Whole.new _ _ _
        have HB := (belowK w (.cells r.cells 24)).trans ((belowK (w.alloc (.cells r.cells 24)) (.cells #[.int .u8 0, .int .u64 0, .int .u64 0, .int .u64 0, .int .u64 0, .int .u64 0, .int .u64 0, .int .u64 0, .int .u64 0, .int .u64 0, .string ⟨#[]⟩, .string ⟨#[]⟩] 24)).mono (by rw [hz]; omega))
        have fz := V0.frozen 6
        have cv : ((w.alloc (.cells r.cells 24)).alloc (.cells #[.int .u8 0, .int .u64 0, .int .u64 0, .int .u64 0, .int .u64 0, .int .u64 0, .int .u64 0, .int .u64 0, .int .u64 0, .int .u64 0, .string ⟨#[]⟩, .string ⟨#[]⟩] 24)).cell? ⟨w.heap.size, 6, none⟩ = some (.int .u64 (r.version : Nat)) := V0.cell 6
        have hz2 : (w.alloc (.cells (r.cells.setIfInBounds 6 (.int .u64 (v : Nat))) 24)).heap.size = w.heap.size + 1 := by simp
        have K1 := Lib.hid (show Whole ((w.alloc (.cells (r.cells.setIfInBounds 6 (.int .u64 (v : Nat))) 24)).alloc (.cells #[.int .u8 0, .int .u64 0, .int .u64 0, .int .u64 0, .int .u64 0, .int .u64 0, .int .u64 0, .int .u64 0, .int .u64 0, .int .u64 0, .string ⟨#[]⟩, .string ⟨#[]⟩] 24)) w.heap.size 24 (r.cells.setIfInBounds 6 (.int .u64 (v : Nat))) from (Whole.new w 24 (r.cells.setIfInBounds 6 (.int .u64 (v : Nat)))).alloc (.cells #[.int .u8 0, .int .u64 0, .int .u64 0, .int .u64 0, .int .u64 0, .int .u64 0, .int .u64 0, .int .u64 0, .int .u64 0, .int .u64 0, .string ⟨#[]⟩, .string ⟨#[]⟩] 24))
        have VF := Lib.hid (show Whole ((w.alloc (.cells (r.cells.setIfInBounds 6 (.int .u64 (v : Nat))) 24)).alloc (.cells #[.int .u8 0, .int .u64 0, .int .u64 0, .int .u64 0, .int .u64 0, .int .u64 0, .int .u64 0, .int .u64 0, .int .u64 0, .int .u64 0, .string ⟨#[]⟩, .string ⟨#[]⟩] 24)) (w.heap.size + 1) 24 #[.int .u8 0, .int .u64 0, .int .u64 0, .int .u64 0, .int .u64 0, .int .u64 0, .int .u64 0, .int .u64 0, .int .u64 0, .int .u64 0, .string ⟨#[]⟩, .string ⟨#[]⟩] by rw [← hz2]; exact Whole.new _ _ _)
        have BF := Lib.hid ((belowK w (.cells (r.cells.setIfInBounds 6 (.int .u64 (v : Nat))) 24)).trans ((belowK (w.alloc (.cells (r.cells.setIfInBounds 6 (.int .u64 (v : Nat))) 24)) (.cells #[.int .u8 0, .int .u64 0, .int .u64 0, .int .u64 0, .int .u64 0, .int .u64 0, .int .u64 0, .int .u64 0, .int .u64 0, .int .u64 0, .string ⟨#[]⟩, .string ⟨#[]⟩] 24)).mono (by rw [hz2]; omega)))
        clear hz2
        clear V0 V1 HB hz hok hv
        obtain ⟨x, hx⟩ : ∃ x : Rc, (⟨r.k, r.proc, r.inc, r.seq, r.epoch, r.until_, v, r.clock, r.size, r.crc, r.name, r.to⟩ : Rc) = x := ⟨_, rfl⟩
        have HX := Lib.hid hx
        rw [hx]
        clear hx
        go_enter Try.func22, Try.ntmps22
        go_wp2_with (first
          | (refine wpList_load_row rfl 24 (.tmp 2) rfl w.heap.size rfl 24 x.cells (0, 0) _ ?_ Try.underlying24 rfl (rec_size _) ?_; · rw [← HX.out]; exact K1.out)
          | (refine wpList_store_row rfl 24 (.tmp 4) (.tmp 77) rfl (w.heap.size + 1) x.cells rfl rfl 24 _ VF.out (rec_size _) rfl (rec_cells _) ?_))
        have k9 := VF.out.row x.cells
        have b9 := Below.setRow BF.out (g := w.heap.size + 1) (by omega) x.cells
        generalize World.setRow ((w.alloc (.cells (r.cells.setIfInBounds 6 (.int .u64 (v : Nat))) 24)).alloc (.cells #[.int .u8 0, .int .u64 0, .int .u64 0, .int .u64 0, .int .u64 0, .int .u64 0, .int .u64 0, .int .u64 0, .int .u64 0, .int .u64 0, .string ⟨#[]⟩, .string ⟨#[]⟩] 24)) (w.heap.size + 1) x.cells = W9 at k9 b9 ⊢
        have r0 : W9.cell? ⟨w.heap.size + 1, 0, none⟩ = some (.int .u8 (x.k : Nat)) := k9.cell 0
        have r1 : W9.cell? ⟨w.heap.size + 1, 1, none⟩ = some (.int .u64 (x.proc : Nat)) := k9.cell 1
        have r2 : W9.cell? ⟨w.heap.size + 1, 2, none⟩ = some (.int .u64 (x.inc : Nat)) := k9.cell 2
        have r3 : W9.cell? ⟨w.heap.size + 1, 3, none⟩ = some (.int .u64 (x.seq : Nat)) := k9.cell 3
        have r4 : W9.cell? ⟨w.heap.size + 1, 4, none⟩ = some (.int .u64 (x.epoch : Nat)) := k9.cell 4
        have r5 : W9.cell? ⟨w.heap.size + 1, 5, none⟩ = some (.int .u64 (x.until_ : Nat)) := k9.cell 5
        have r6 : W9.cell? ⟨w.heap.size + 1, 6, none⟩ = some (.int .u64 (x.version : Nat)) := k9.cell 6
        have r7 : W9.cell? ⟨w.heap.size + 1, 7, none⟩ = some (.int .u64 (x.clock : Nat)) := k9.cell 7
        have r8 : W9.cell? ⟨w.heap.size + 1, 8, none⟩ = some (.int .u64 (x.size : Nat)) := k9.cell 8
        have r9 : W9.cell? ⟨w.heap.size + 1, 9, none⟩ = some (.int .u64 (x.crc : Nat)) := k9.cell 9
        have r10 : W9.cell? ⟨w.heap.size + 1, 10, none⟩ = some (.string x.name) := k9.cell 10
        have r11 : W9.cell? ⟨w.heap.size + 1, 11, none⟩ = some (.string x.to) := k9.cell 11
        clear k9
        have B9 := Lib.hid b9
        clear b9
        simp [bodyPost, results, Try.results22, go_sem, Rc.cells, r0, r1, r2, r3, r4, r5, r6, r7, r8, r9, r10, r11]
        exact B9.out
      · have b2 : ((i : Int) == 2) = false := by simp; omega
        by_cases h3 : i = 3
        · subst h3
          obtain ⟨v, hv, hw⟩ : ∃ v : Nat, v < 18446744073709551616 ∧ IntKind.u64.wrap ((r.clock : Int) + 1) = (v : Int) := ⟨(r.clock + 1) % 18446744073709551616, by omega, by rw [IntKind.wrap_u64]; omega⟩
          refine ⟨(⟨r.k, r.proc, r.inc, r.seq, r.epoch, r.until_, r.version, v, r.size, r.crc, r.name, r.to⟩ : Rc), ⟨hok.1, hok.2.1, hok.2.2.1, hok.2.2.2.1, hok.2.2.2.2.1, hok.2.2.2.2.2.1, hok.2.2.2.2.2.2.1, hv, hok.2.2.2.2.2.2.2.2.1, hok.2.2.2.2.2.2.2.2.2.1, hok.2.2.2.2.2.2.2.2.2.2.1, hok.2.2.2.2.2.2.2.2.2.2.2⟩, fun w => ?_⟩
          have hz : (w.alloc (.cells r.cells 24)).heap.size = w.heap.size + 1 := by simp
          have V0 : Whole ((w.alloc (.cells r.cells 24)).alloc (.cells #[.int .u8 0, .int .u64 0, .int .u64 0, .int .u64 0, .int .u64 0, .int .u64 0, .int .u64 0, .int .u64 0, .int .u64 0, .int .u64 0, .string ⟨#[]⟩, .string ⟨#[]⟩] 24)) w.heap.size 24 r.cells := (Whole.new w 24 r.cells).alloc (.cells #[.int .u8 0, .int .u64 0, .int .u64 0, .int .u64 0, .int .u64 0, .int .u64 0, .int .u64 0, .int .u64 0, .int .u64 0, .int .u64 0, .string ⟨#[]⟩, .string ⟨#[]⟩] 24)
          have V1 : Whole ((w.alloc (.cells r.cells 24)).alloc (.cells #[.int .u8 0, .int .u64 0, .int .u64 0, .int .u64 0, .int .u64 0, .int .u64 0, .int .u64 0, .int .u64 0, .int .u64 0, .int .u64 0, .string ⟨#[]⟩, .string ⟨#[]⟩] 24)) (w.heap.size + 1) 24 #[.int .u8 0, .int .u64 0, .int .u64 0, .int .u64 0, .int .u64 0, .int .u64 0, .int .u64 0, .int .u64 0, .int .u64 0, .int .u64 0, .string ⟨#[]⟩, .string ⟨#[]⟩] := by rw [← hz]; exact Whole.new _ _ _
          have HB := (belowK w (.cells r.cells 24)).trans ((belowK (w.alloc (.cells r.cells 24)) (.cells #[.int .u8 0, .int .u64 0, .int .u64 0, .int .u64 0, .int .u64 0, .int .u64 0, .int .u64 0, .int .u64 0, .int .u64 0, .int .u64 0, .string ⟨#[]⟩, .string ⟨#[]⟩] 24)).mono (by rw [hz]; omega))
          have fz := V0.frozen 7
          have cv : ((w.alloc (.cells r.cells 24)).alloc (.cells #[.int .u8 0, .int .u64 0, .int .u64 0, .int .u64 0, .int .u64 0, .int .u64 0, .int .u64 0, .int .u64 0, .int .u64 0, .int .u64 0, .string ⟨#[]⟩, .string ⟨#[]⟩] 24)).cell? ⟨w.heap.size, 7, none⟩ = some (.int .u64 (r.clock : Nat)) := V0.cell 7
          have hz2 : (w.alloc (.cells (r.cells.setIfInBounds 7 (.int .u64 (v : Nat))) 24)).heap.size = w.heap.size + 1 := by simp
          have K1 := Lib.hid (show Whole ((w.alloc (.cells (r.cells.setIfInBounds 7 (.int .u64 (v : Nat))) 24)).alloc (.cells #[.int .u8 0, .int .u64 0, .int .u64 0, .int .u64 0, .int .u64 0, .int .u64 0, .int .u64 0, .int .u64 0, .int .u64 0, .int .u64 0, .string ⟨#[]⟩, .string ⟨#[]⟩] 24)) w.heap.size 24 (r.cells.setIfInBounds 7 (.int .u64 (v : Nat))) from (Whole.new w 24 (r.cells.setIfInBounds 7 (.int .u64 (v : Nat)))).alloc (.cells #[.int .u8 0, .int .u64 0, .int .u64 0, .int .u64 0, .int .u64 0, .int .u64 0, .int .u64 0, .int .u64 0, .int .u64 0, .int .u64 0, .string ⟨#[]⟩, .string ⟨#[]⟩] 24))
          have VF := Lib.hid (show Whole ((w.alloc (.cells (r.cells.setIfInBounds 7 (.int .u64 (v : Nat))) 24)).alloc (.cells #[.int .u8 0, .int .u64 0, .int .u64 0, .int .u64 0, .int .u64 0, .int .u64 0, .int .u64 0, .int .u64 0, .int .u64 0, .int .u64 0, .string ⟨#[]⟩, .string ⟨#[]⟩] 24)) (w.heap.size + 1) 24 #[.int .u8 0, .int .u64 0, .int .u64 0, .int .u64 0, .int .u64 0, .int .u64 0, .int .u64 0, .int .u64 0, .int .u64 0, .int .u64 0, .string ⟨#[]⟩, .string ⟨#[]⟩] by rw [← hz2]; exact Whole.new _ _ _)
          have BF := Lib.hid ((belowK w (.cells (r.cells.setIfInBounds 7 (.int .u64 (v : Nat))) 24)).trans ((belowK (w.alloc (.cells (r.cells.setIfInBounds 7 (.int .u64 (v : Nat))) 24)) (.cells #[.int .u8 0, .int .u64 0, .int .u64 0, .int .u64 0, .int .u64 0, .int .u64 0, .int .u64 0, .int .u64 0, .int .u64 0, .int .u64 0, .string ⟨#[]⟩, .string ⟨#[]⟩] 24)).mono (by rw [hz2]; omega)))
          clear hz2
          clear V0 V1 HB hz hok hv
          obtain ⟨x, hx⟩ : ∃ x : Rc, (⟨r.k, r.proc, r.inc, r.seq, r.epoch, r.until_, r.version, v, r.size, r.crc, r.name, r.to⟩ : Rc) = x := ⟨_, rfl⟩
          have HX := Lib.hid hx
          rw [hx]
          clear hx
          go_enter Try.func22, Try.ntmps22
          go_wp2_with (first
            | (refine wpList_load_row rfl 24 (.tmp 2) rfl w.heap.size rfl 24 x.cells (0, 0) _ ?_ Try.underlying24 rfl (rec_size _) ?_; · rw [← HX.out]; exact K1.out)
            | (refine wpList_store_row rfl 24 (.tmp 4) (.tmp 77) rfl (w.heap.size + 1) x.cells rfl rfl 24 _ VF.out (rec_size _) rfl (rec_cells _) ?_))
          have k9 := VF.out.row x.cells
          have b9 := Below.setRow BF.out (g := w.heap.size + 1) (by omega) x.cells
          generalize World.setRow ((w.alloc (.cells (r.cells.setIfInBounds 7 (.int .u64 (v : Nat))) 24)).alloc (.cells #[.int .u8 0, .int .u64 0, .int .u64 0, .int .u64 0, .int .u64 0, .int .u64 0, .int .u64 0, .int .u64 0, .int .u64 0, .int .u64 0, .string ⟨#[]⟩, .string ⟨#[]⟩] 24)) (w.heap.size + 1) x.cells = W9 at k9 b9 ⊢
          have r0 : W9.cell? ⟨w.heap.size + 1, 0, none⟩ = some (.int .u8 (x.k : Nat)) := k9.cell 0
          have r1 : W9.cell? ⟨w.heap.size + 1, 1, none⟩ = some (.int .u64 (x.proc : Nat)) := k9.cell 1
          have r2 : W9.cell? ⟨w.heap.size + 1, 2, none⟩ = some (.int .u64 (x.inc : Nat)) := k9.cell 2
          have r3 : W9.cell? ⟨w.heap.size + 1, 3, none⟩ = some (.int .u64 (x.seq : Nat)) := k9.cell 3
          have r4 : W9.cell? ⟨w.heap.size + 1, 4, none⟩ = some (.int .u64 (x.epoch : Nat)) := k9.cell 4
          have r5 : W9.cell? ⟨w.heap.size + 1, 5, none⟩ = some (.int .u64 (x.until_ : Nat)) := k9.cell 5
          have r6 : W9.cell? ⟨w.heap.size + 1, 6, none⟩ = some (.int .u64 (x.version : Nat)) := k9.cell 6
          have r7 : W9.cell? ⟨w.heap.size + 1, 7, none⟩ = some (.int .u64 (x.clock : Nat)) := k9.cell 7
          have r8 : W9.cell? ⟨w.heap.size + 1, 8, none⟩ = some (.int .u64 (x.size : Nat)) := k9.cell 8
          have r9 : W9.cell? ⟨w.heap.size + 1, 9, none⟩ = some (.int .u64 (x.crc : Nat)) := k9.cell 9
          have r10 : W9.cell? ⟨w.heap.size + 1, 10, none⟩ = some (.string x.name) := k9.cell 10
          have r11 : W9.cell? ⟨w.heap.size + 1, 11, none⟩ = some (.string x.to) := k9.cell 11
          clear k9
          have B9 := Lib.hid b9
          clear b9
          simp [bodyPost, results, Try.results22, go_sem, Rc.cells, r0, r1, r2, r3, r4, r5, r6, r7, r8, r9, r10, r11]
          exact B9.out
        · have b3 : ((i : Int) == 3) = false := by simp; omega
          by_cases h4 : i = 4
          · subst h4
            obtain ⟨v, hv, hw⟩ : ∃ v : Nat, v < 18446744073709551616 ∧ IntKind.u64.wrap ((r.size : Int) + 1) = (v : Int) := ⟨(r.size + 1) % 18446744073709551616, by omega, by rw [IntKind.wrap_u64]; omega⟩
            refine ⟨(⟨r.k, r.proc, r.inc, r.seq, r.epoch, r.until_, r.version, r.clock, v, r.crc, r.name, r.to⟩ : Rc), ⟨hok.1, hok.2.1, hok.2.2.1, hok.2.2.2.1, hok.2.2.2.2.1, hok.2.2.2.2.2.1, hok.2.2.2.2.2.2.1, hok.2.2.2.2.2.2.2.1, hv, hok.2.2.2.2.2.2.2.2.2.1, hok.2.2.2.2.2.2.2.2.2.2.1, hok.2.2.2.2.2.2.2.2.2.2.2⟩, fun w => ?_⟩
            have hz : (w.alloc (.cells r.cells 24)).heap.size = w.heap.size + 1 := by simp
            have V0 : Whole ((w.alloc (.cells r.cells 24)).alloc (.cells #[.int .u8 0, .int .u64 0, .int .u64 0, .int .u64 0, .int .u64 0, .int .u64 0, .int .u64 0, .int .u64 0, .int .u64 0, .int .u64 0, .string ⟨#[]⟩, .string ⟨#[]⟩] 24)) w.heap.size 24 r.cells := (Whole.new w 24 r.cells).alloc (.cells #[.int .u8 0, .int .u64 0, .int .u64 0, .int .u64 0, .int .u64 0, .int .u64 0, .int .u64 0, .int .u64 0, .int .u64 0, .int .u64 0, .string ⟨#[]⟩, .string ⟨#[]⟩] 24)
            have V1 : Whole ((w.alloc (.cells r.cells 24)).alloc (.cells #[.int .u8 0, .int .u64 0, .int .u64 0, .int .u64 0, .int .u64 0, .int .u64 0, .int .u64 0, .int .u64 0, .int .u64 0, .int .u64 0, .string ⟨#[]⟩, .string ⟨#[]⟩] 24)) (w.heap.size + 1) 24 #[.int .u8 0, .int .u64 0, .int .u64 0, .int .u64 0, .int .u64 0, .int .u64 0, .int .u64 0, .int .u64 0, .int .u64 0, .int .u64 0, .string ⟨#[]⟩, .string ⟨#[]⟩] := by rw [← hz]; exact Whole.new _ _ _
            have HB := (belowK w (.cells r.cells 24)).trans ((belowK (w.alloc (.cells r.cells 24)) (.cells #[.int .u8 0, .int .u64 0, .int .u64 0, .int .u64 0, .int .u64 0, .int .u64 0, .int .u64 0, .int .u64 0, .int .u64 0, .int .u64 0, .string ⟨#[]⟩, .string ⟨#[]⟩] 24)).mono (by rw [hz]; omega))
            have fz := V0.frozen 8
            have cv : ((w.alloc (.cells r.cells 24)).alloc (.cells #[.int .u8 0, .int .u64 0, .int .u64 0, .int .u64 0, .int .u64 0, .int .u64 0, .int .u64 0, .int .u64 0, .int .u64 0, .int .u64 0, .string ⟨#[]⟩, .string ⟨#[]⟩] 24)).cell? ⟨w.heap.size, 8, none⟩ = some (.int .u64 (r.size : Nat)) := V0.cell 8
            have hz2 : (w.alloc (.cells (r.cells.setIfInBounds 8 (.int .u64 (v : Nat))) 24)).heap.size = w.heap.size + 1 := by simp
            have K1 := Lib.hid (show Whole ((w.alloc (.cells (r.cells.setIfInBounds 8 (.int .u64 (v : Nat))) 24)).alloc (.cells #[.int .u8 0, .int .u64 0, .int .u64 0, .int .u64 0, .int .u64 0, .int .u64 0, .int .u64 0, .int .u64 0, .int .u64 0, .int .u64 0, .string ⟨#[]⟩, .string ⟨#[]⟩] 24)) w.heap.size 24 (r.cells.setIfInBounds 8 (.int .u64 (v : Nat))) from (Whole.new w 24 (r.cells.setIfInBounds 8 (.int .u64 (v : Nat)))).alloc (.cells #[.int .u8 0, .int .u64 0, .int .u64 0, .int .u64 0, .int .u64 0, .int .u64 0, .int .u64 0, .int .u64 0, .int .u64 0, .int .u64 0, .string ⟨#[]⟩, .string ⟨#[]⟩] 24))
            have VF := Lib.hid (show Whole ((w.alloc (.cells (r.cells.setIfInBounds 8 (.int .u64 (v : Nat))) 24)).alloc (.cells #[.int .u8 0, .int .u64 0, .int .u64 0, .int .u64 0, .int .u64 0, .int .u64 0, .int .u64 0, .int .u64 0, .int .u64 0, .int .u64 0, .string ⟨#[]⟩, .string ⟨#[]⟩] 24)) (w.heap.size + 1) 24 #[.int .u8 0, .int .u64 0, .int .u64 0, .int .u64 0, .int .u64 0, .int .u64 0, .int .u64 0, .int .u64 0, .int .u64 0, .int .u64 0, .string ⟨#[]⟩, .string ⟨#[]⟩] by rw [← hz2]; exact Whole.new _ _ _)
            have BF := Lib.hid ((belowK w (.cells (r.cells.setIfInBounds 8 (.int .u64 (v : Nat))) 24)).trans ((belowK (w.alloc (.cells (r.cells.setIfInBounds 8 (.int .u64 (v : Nat))) 24)) (.cells #[.int .u8 0, .int .u64 0, .int .u64 0, .int .u64 0, .int .u64 0, .int .u64 0, .int .u64 0, .int .u64 0, .int .u64 0, .int .u64 0, .string ⟨#[]⟩, .string ⟨#[]⟩] 24)).mono (by rw [hz2]; omega)))
            clear hz2
            clear V0 V1 HB hz hok hv
            obtain ⟨x, hx⟩ : ∃ x : Rc, (⟨r.k, r.proc, r.inc, r.seq, r.epoch, r.until_, r.version, r.clock, v, r.crc, r.name, r.to⟩ : Rc) = x := ⟨_, rfl⟩
            have HX := Lib.hid hx
            rw [hx]
            clear hx
            go_enter Try.func22, Try.ntmps22
            go_wp2_with (first
              | (refine wpList_load_row rfl 24 (.tmp 2) rfl w.heap.size rfl 24 x.cells (0, 0) _ ?_ Try.underlying24 rfl (rec_size _) ?_; · rw [← HX.out]; exact K1.out)
              | (refine wpList_store_row rfl 24 (.tmp 4) (.tmp 77) rfl (w.heap.size + 1) x.cells rfl rfl 24 _ VF.out (rec_size _) rfl (rec_cells _) ?_))
            have k9 := VF.out.row x.cells
            have b9 := Below.setRow BF.out (g := w.heap.size + 1) (by omega) x.cells
            generalize World.setRow ((w.alloc (.cells (r.cells.setIfInBounds 8 (.int .u64 (v : Nat))) 24)).alloc (.cells #[.int .u8 0, .int .u64 0, .int .u64 0, .int .u64 0, .int .u64 0, .int .u64 0, .int .u64 0, .int .u64 0, .int .u64 0, .int .u64 0, .string ⟨#[]⟩, .string ⟨#[]⟩] 24)) (w.heap.size + 1) x.cells = W9 at k9 b9 ⊢
            have r0 : W9.cell? ⟨w.heap.size + 1, 0, none⟩ = some (.int .u8 (x.k : Nat)) := k9.cell 0
            have r1 : W9.cell? ⟨w.heap.size + 1, 1, none⟩ = some (.int .u64 (x.proc : Nat)) := k9.cell 1
            have r2 : W9.cell? ⟨w.heap.size + 1, 2, none⟩ = some (.int .u64 (x.inc : Nat)) := k9.cell 2
            have r3 : W9.cell? ⟨w.heap.size + 1, 3, none⟩ = some (.int .u64 (x.seq : Nat)) := k9.cell 3
            have r4 : W9.cell? ⟨w.heap.size + 1, 4, none⟩ = some (.int .u64 (x.epoch : Nat)) := k9.cell 4
            have r5 : W9.cell? ⟨w.heap.size + 1, 5, none⟩ = some (.int .u64 (x.until_ : Nat)) := k9.cell 5
            have r6 : W9.cell? ⟨w.heap.size + 1, 6, none⟩ = some (.int .u64 (x.version : Nat)) := k9.cell 6
            have r7 : W9.cell? ⟨w.heap.size + 1, 7, none⟩ = some (.int .u64 (x.clock : Nat)) := k9.cell 7
            have r8 : W9.cell? ⟨w.heap.size + 1, 8, none⟩ = some (.int .u64 (x.size : Nat)) := k9.cell 8
            have r9 : W9.cell? ⟨w.heap.size + 1, 9, none⟩ = some (.int .u64 (x.crc : Nat)) := k9.cell 9
            have r10 : W9.cell? ⟨w.heap.size + 1, 10, none⟩ = some (.string x.name) := k9.cell 10
            have r11 : W9.cell? ⟨w.heap.size + 1, 11, none⟩ = some (.string x.to) := k9.cell 11
            clear k9
            have B9 := Lib.hid b9
            clear b9
            simp [bodyPost, results, Try.results22, go_sem, Rc.cells, r0, r1, r2, r3, r4, r5, r6, r7, r8, r9, r10, r11]
            exact B9.out
          · have b4 : ((i : Int) == 4) = false := by simp; omega
            by_cases h5 : i = 5
            · subst h5
              obtain ⟨v, hv, hw⟩ : ∃ v : Nat, v < 18446744073709551616 ∧ IntKind.u64.wrap ((r.crc : Int) + 1) = (v : Int) := ⟨(r.crc + 1) % 18446744073709551616, by omega, by rw [IntKind.wrap_u64]; omega⟩
              refine ⟨(⟨r.k, r.proc, r.inc, r.seq, r.epoch, r.until_, r.version, r.clock, r.size, v, r.name, r.to⟩ : Rc), ⟨hok.1, hok.2.1, hok.2.2.1, hok.2.2.2.1, hok.2.2.2.2.1, hok.2.2.2.2.2.1, hok.2.2.2.2.2.2.1, hok.2.2.2.2.2.2.2.1, hok.2.2.2.2.2.2.2.2.1, hv, hok.2.2.2.2.2.2.2.2.2.2.1, hok.2.2.2.2.2.2.2.2.2.2.2⟩, fun w => ?_⟩
              have hz : (w.alloc (.cells r.cells 24)).heap.size = w.heap.size + 1 := by simp
              have V0 : Whole ((w.alloc (.cells r.cells 24)).alloc (.cells #[.int .u8 0, .int .u64 0, .int .u64 0, .int .u64 0, .int .u64 0, .int .u64 0, .int .u64 0, .int .u64 0, .int .u64 0, .int .u64 0, .string ⟨#[]⟩, .string ⟨#[]⟩] 24)) w.heap.size 24 r.cells := (Whole.new w 24 r.cells).alloc (.cells #[.int .u8 0, .int .u64 0, .int .u64 0, .int .u64 0, .int .u64 0, .int .u64 0, .int .u64 0, .int .u64 0, .int .u64 0, .int .u64 0, .string ⟨#[]⟩, .string ⟨#[]⟩] 24)
              have V1 : Whole ((w.alloc (.cells r.cells 24)).alloc (.cells #[.int .u8 0, .int .u64 0, .int .u64 0, .int .u64 0, .int .u64 0, .int .u64 0, .int .u64 0, .int .u64 0, .int .u64 0, .int .u64 0, .string ⟨#[]⟩, .string ⟨#[]⟩] 24)) (w.heap.size + 1) 24 #[.int .u8 0, .int .u64 0, .int .u64 0, .int .u64 0, .int .u64 0, .int .u64 0, .int .u64 0, .int .u64 0, .int .u64 0, .int .u64 0, .string ⟨#[]⟩, .string ⟨#[]⟩] := by rw [← hz]; exact Whole.new _ _ _
              have HB := (belowK w (.cells r.cells 24)).trans ((belowK (w.alloc (.cells r.cells 24)) (.cells #[.int .u8 0, .int .u64 0, .int .u64 0, .int .u64 0, .int .u64 0, .int .u64 0, .int .u64 0, .int .u64 0, .int .u64 0, .int .u64 0, .string ⟨#[]⟩, .string ⟨#[]⟩] 24)).mono (by rw [hz]; omega))
              have fz := V0.frozen 9
              have cv : ((w.alloc (.cells r.cells 24)).alloc (.cells #[.int .u8 0, .int .u64 0, .int .u64 0, .int .u64 0, .int .u64 0, .int .u64 0, .int .u64 0, .int .u64 0, .int .u64 0, .int .u64 0, .string ⟨#[]⟩, .string ⟨#[]⟩] 24)).cell? ⟨w.heap.size, 9, none⟩ = some (.int .u64 (r.crc : Nat)) := V0.cell 9
              have hz2 : (w.alloc (.cells (r.cells.setIfInBounds 9 (.int .u64 (v : Nat))) 24)).heap.size = w.heap.size + 1 := by simp
              have K1 := Lib.hid (show Whole ((w.alloc (.cells (r.cells.setIfInBounds 9 (.int .u64 (v : Nat))) 24)).alloc (.cells #[.int .u8 0, .int .u64 0, .int .u64 0, .int .u64 0, .int .u64 0, .int .u64 0, .int .u64 0, .int .u64 0, .int .u64 0, .int .u64 0, .string ⟨#[]⟩, .string ⟨#[]⟩] 24)) w.heap.size 24 (r.cells.setIfInBounds 9 (.int .u64 (v : Nat))) from (Whole.new w 24 (r.cells.setIfInBounds 9 (.int .u64 (v : Nat)))).alloc (.cells #[.int .u8 0, .int .u64 0, .int .u64 0, .int .u64 0, .int .u64 0, .int .u64 0, .int .u64 0, .int .u64 0, .int .u64 0, .int .u64 0, .string ⟨#[]⟩, .string ⟨#[]⟩] 24))
              have VF := Lib.hid (show Whole ((w.alloc (.cells (r.cells.setIfInBounds 9 (.int .u64 (v : Nat))) 24)).alloc (.cells #[.int .u8 0, .int .u64 0, .int .u64 0, .int .u64 0, .int .u64 0, .int .u64 0, .int .u64 0, .int .u64 0, .int .u64 0, .int .u64 0, .string ⟨#[]⟩, .string ⟨#[]⟩] 24)) (w.heap.size + 1) 24 #[.int .u8 0, .int .u64 0, .int .u64 0, .int .u64 0, .int .u64 0, .int .u64 0, .int .u64 0, .int .u64 0, .int .u64 0, .int .u64 0, .string ⟨#[]⟩, .string ⟨#[]⟩] by rw [← hz2]; exact Whole.new _ _ _)
              have BF := Lib.hid ((belowK w (.cells (r.cells.setIfInBounds 9 (.int .u64 (v : Nat))) 24)).trans ((belowK (w.alloc (.cells (r.cells.setIfInBounds 9 (.int .u64 (v : Nat))) 24)) (.cells #[.int .u8 0, .int .u64 0, .int .u64 0, .int .u64 0, .int .u64 0, .int .u64 0, .int .u64 0, .int .u64 0, .int .u64 0, .int .u64 0, .string ⟨#[]⟩, .string ⟨#[]⟩] 24)).mono (by rw [hz2]; omega)))
              clear hz2
              clear V0 V1 HB hz hok hv
              obtain ⟨x, hx⟩ : ∃ x : Rc, (⟨r.k, r.proc, r.inc, r.seq, r.epoch, r.until_, r.version, r.clock, r.size, v, r.name, r.to⟩ : Rc) = x := ⟨_, rfl⟩
              have HX := Lib.hid hx
              rw [hx]
              clear hx
              go_enter Try.func22, Try.ntmps22
              go_wp2_with (first
                | (refine wpList_load_row rfl 24 (.tmp 2) rfl w.heap.size rfl 24 x.cells (0, 0) _ ?_ Try.underlying24 rfl (rec_size _) ?_; · rw [← HX.out]; exact K1.out)
                | (refine wpList_store_row rfl 24 (.tmp 4) (.tmp 77) rfl (w.heap.size + 1) x.cells rfl rfl 24 _ VF.out (rec_size _) rfl (rec_cells _) ?_))
              have k9 := VF.out.row x.cells
              have b9 := Below.setRow BF.out (g := w.heap.size + 1) (by omega) x.cells
              generalize World.setRow ((w.alloc (.cells (r.cells.setIfInBounds 9 (.int .u64 (v : Nat))) 24)).alloc (.cells #[.int .u8 0, .int .u64 0, .int .u64 0, .int .u64 0, .int .u64 0, .int .u64 0, .int .u64 0, .int .u64 0, .int .u64 0, .int .u64 0, .string ⟨#[]⟩, .string ⟨#[]⟩] 24)) (w.heap.size + 1) x.cells = W9 at k9 b9 ⊢
              have r0 : W9.cell? ⟨w.heap.size + 1, 0, none⟩ = some (.int .u8 (x.k : Nat)) := k9.cell 0
              have r1 : W9.cell? ⟨w.heap.size + 1, 1, none⟩ = some (.int .u64 (x.proc : Nat)) := k9.cell 1
              have r2 : W9.cell? ⟨w.heap.size + 1, 2, none⟩ = some (.int .u64 (x.inc : Nat)) := k9.cell 2
              have r3 : W9.cell? ⟨w.heap.size + 1, 3, none⟩ = some (.int .u64 (x.seq : Nat)) := k9.cell 3
              have r4 : W9.cell? ⟨w.heap.size + 1, 4, none⟩ = some (.int .u64 (x.epoch : Nat)) := k9.cell 4
              have r5 : W9.cell? ⟨w.heap.size + 1, 5, none⟩ = some (.int .u64 (x.until_ : Nat)) := k9.cell 5
              have r6 : W9.cell? ⟨w.heap.size + 1, 6, none⟩ = some (.int .u64 (x.version : Nat)) := k9.cell 6
              have r7 : W9.cell? ⟨w.heap.size + 1, 7, none⟩ = some (.int .u64 (x.clock : Nat)) := k9.cell 7
              have r8 : W9.cell? ⟨w.heap.size + 1, 8, none⟩ = some (.int .u64 (x.size : Nat)) := k9.cell 8
              have r9 : W9.cell? ⟨w.heap.size + 1, 9, none⟩ = some (.int .u64 (x.crc : Nat)) := k9.cell 9
              have r10 : W9.cell? ⟨w.heap.size + 1, 10, none⟩ = some (.string x.name) := k9.cell 10
              have r11 : W9.cell? ⟨w.heap.size + 1, 11, none⟩ = some (.string x.to) := k9.cell 11
              clear k9
              have B9 := Lib.hid b9
              clear b9
              simp [bodyPost, results, Try.results22, go_sem, Rc.cells, r0, r1, r2, r3, r4, r5, r6, r7, r8, r9, r10, r11]
              exact B9.out
            · have b5 : ((i : Int) == 5) = false := by simp; omega
              by_cases h6 : i = 6
              · subst h6
                have hv : (⟨#[]⟩ : ByteArray).size ≤ maxLen := by decide
                refine ⟨(⟨r.k, r.proc, r.inc, r.seq, r.epoch, r.until_, r.version, r.clock, r.size, r.crc, ⟨#[]⟩, r.to⟩ : Rc), ⟨hok.1, hok.2.1, hok.2.2.1, hok.2.2.2.1, hok.2.2.2.2.1, hok.2.2.2.2.2.1, hok.2.2.2.2.2.2.1, hok.2.2.2.2.2.2.2.1, hok.2.2.2.2.2.2.2.2.1, hok.2.2.2.2.2.2.2.2.2.1, hv, hok.2.2.2.2.2.2.2.2.2.2.2⟩, fun w => ?_⟩
                have hz : (w.alloc (.cells r.cells 24)).heap.size = w.heap.size + 1 := by simp
                have V0 : Whole ((w.alloc (.cells r.cells 24)).alloc (.cells #[.int .u8 0, .int .u64 0, .int .u64 0, .int .u64 0, .int .u64 0, .int .u64 0, .int .u64 0, .int .u64 0, .int .u64 0, .int .u64 0, .string ⟨#[]⟩, .string ⟨#[]⟩] 24)) w.heap.size 24 r.cells := (Whole.new w 24 r.cells).alloc (.cells #[.int .u8 0, .int .u64 0, .int .u64 0, .int .u64 0, .int .u64 0, .int .u64 0, .int .u64 0, .int .u64 0, .int .u64 0, .int .u64 0, .string ⟨#[]⟩, .string ⟨#[]⟩] 24)
                have V1 : Whole ((w.alloc (.cells r.cells 24)).alloc (.cells #[.int .u8 0, .int .u64 0, .int .u64 0, .int .u64 0, .int .u64 0, .int .u64 0, .int .u64 0, .int .u64 0, .int .u64 0, .int .u64 0, .string ⟨#[]⟩, .string ⟨#[]⟩] 24)) (w.heap.size + 1) 24 #[.int .u8 0, .int .u64 0, .int .u64 0, .int .u64 0, .int .u64 0, .int .u64 0, .int .u64 0, .int .u64 0, .int .u64 0, .int .u64 0, .string ⟨#[]⟩, .string ⟨#[]⟩] := by rw [← hz]; exact Whole.new _ _ _
                have HB := (belowK w (.cells r.cells 24)).trans ((belowK (w.alloc (.cells r.cells 24)) (.cells #[.int .u8 0, .int .u64 0, .int .u64 0, .int .u64 0, .int .u64 0, .int .u64 0, .int .u64 0, .int .u64 0, .int .u64 0, .int .u64 0, .string ⟨#[]⟩, .string ⟨#[]⟩] 24)).mono (by rw [hz]; omega))
                have fz := V0.frozen 10
                have cv : ((w.alloc (.cells r.cells 24)).alloc (.cells #[.int .u8 0, .int .u64 0, .int .u64 0, .int .u64 0, .int .u64 0, .int .u64 0, .int .u64 0, .int .u64 0, .int .u64 0, .int .u64 0, .string ⟨#[]⟩, .string ⟨#[]⟩] 24)).cell? ⟨w.heap.size, 10, none⟩ = some (.string r.name) := V0.cell 10
                have hz2 : (w.alloc (.cells (r.cells.setIfInBounds 10 (.string ⟨#[]⟩)) 24)).heap.size = w.heap.size + 1 := by simp
                have K1 := Lib.hid (show Whole ((w.alloc (.cells (r.cells.setIfInBounds 10 (.string ⟨#[]⟩)) 24)).alloc (.cells #[.int .u8 0, .int .u64 0, .int .u64 0, .int .u64 0, .int .u64 0, .int .u64 0, .int .u64 0, .int .u64 0, .int .u64 0, .int .u64 0, .string ⟨#[]⟩, .string ⟨#[]⟩] 24)) w.heap.size 24 (r.cells.setIfInBounds 10 (.string ⟨#[]⟩)) from (Whole.new w 24 (r.cells.setIfInBounds 10 (.string ⟨#[]⟩))).alloc (.cells #[.int .u8 0, .int .u64 0, .int .u64 0, .int .u64 0, .int .u64 0, .int .u64 0, .int .u64 0, .int .u64 0, .int .u64 0, .int .u64 0, .string ⟨#[]⟩, .string ⟨#[]⟩] 24))
                have VF := Lib.hid (show Whole ((w.alloc (.cells (r.cells.setIfInBounds 10 (.string ⟨#[]⟩)) 24)).alloc (.cells #[.int .u8 0, .int .u64 0, .int .u64 0, .int .u64 0, .int .u64 0, .int .u64 0, .int .u64 0, .int .u64 0, .int .u64 0, .int .u64 0, .string ⟨#[]⟩, .string ⟨#[]⟩] 24)) (w.heap.size + 1) 24 #[.int .u8 0, .int .u64 0, .int .u64 0, .int .u64 0, .int .u64 0, .int .u64 0, .int .u64 0, .int .u64 0, .int .u64 0, .int .u64 0, .string ⟨#[]⟩, .string ⟨#[]⟩] by rw [← hz2]; exact Whole.new _ _ _)
                have BF := Lib.hid ((belowK w (.cells (r.cells.setIfInBounds 10 (.string ⟨#[]⟩)) 24)).trans ((belowK (w.alloc (.cells (r.cells.setIfInBounds 10 (.string ⟨#[]⟩)) 24)) (.cells #[.int .u8 0, .int .u64 0, .int .u64 0, .int .u64 0, .int .u64 0, .int .u64 0, .int .u64 0, .int .u64 0, .int .u64 0, .int .u64 0, .string ⟨#[]⟩, .string ⟨#[]⟩] 24)).mono (by rw [hz2]; omega)))
                clear hz2
                clear V0 V1 HB hz hok hv
                obtain ⟨x, hx⟩ : ∃ x : Rc, (⟨r.k, r.proc, r.inc, r.seq, r.epoch, r.until_, r.version, r.clock, r.size, r.crc, ⟨#[]⟩, r.to⟩ : Rc) = x := ⟨_, rfl⟩
                have HX := Lib.hid hx
                rw [hx]
                clear hx
                go_enter Try.func22, Try.ntmps22
                go_wp2_with (first
                  | (refine wpList_load_row rfl 24 (.tmp 2) rfl w.heap.size rfl 24 x.cells (0, 0) _ ?_ Try.underlying24 rfl (rec_size _) ?_; · rw [← HX.out]; exact K1.out)
                  | (refine wpList_store_row rfl 24 (.tmp 4) (.tmp 77) rfl (w.heap.size + 1) x.cells rfl rfl 24 _ VF.out (rec_size _) rfl (rec_cells _) ?_))
                have k9 := VF.out.row x.cells
                have b9 := Below.setRow BF.out (g := w.heap.size + 1) (by omega) x.cells
                generalize World.setRow ((w.alloc (.cells (r.cells.setIfInBounds 10 (.string ⟨#[]⟩)) 24)).alloc (.cells #[.int .u8 0, .int .u64 0, .int .u64 0, .int .u64 0, .int .u64 0, .int .u64 0, .int .u64 0, .int .u64 0, .int .u64 0, .int .u64 0, .string ⟨#[]⟩, .string ⟨#[]⟩] 24)) (w.heap.size + 1) x.cells = W9 at k9 b9 ⊢
                have r0 : W9.cell? ⟨w.heap.size + 1, 0, none⟩ = some (.int .u8 (x.k : Nat)) := k9.cell 0
                have r1 : W9.cell? ⟨w.heap.size + 1, 1, none⟩ = some (.int .u64 (x.proc : Nat)) := k9.cell 1
                have r2 : W9.cell? ⟨w.heap.size + 1, 2, none⟩ = some (.int .u64 (x.inc : Nat)) := k9.cell 2
                have r3 : W9.cell? ⟨w.heap.size + 1, 3, none⟩ = some (.int .u64 (x.seq : Nat)) := k9.cell 3
                have r4 : W9.cell? ⟨w.heap.size + 1, 4, none⟩ = some (.int .u64 (x.epoch : Nat)) := k9.cell 4
                have r5 : W9.cell? ⟨w.heap.size + 1, 5, none⟩ = some (.int .u64 (x.until_ : Nat)) := k9.cell 5
                have r6 : W9.cell? ⟨w.heap.size + 1, 6, none⟩ = some (.int .u64 (x.version : Nat)) := k9.cell 6
                have r7 : W9.cell? ⟨w.heap.size + 1, 7, none⟩ = some (.int .u64 (x.clock : Nat)) := k9.cell 7
                have r8 : W9.cell? ⟨w.heap.size + 1, 8, none⟩ = some (.int .u64 (x.size : Nat)) := k9.cell 8
                have r9 : W9.cell? ⟨w.heap.size + 1, 9, none⟩ = some (.int .u64 (x.crc : Nat)) := k9.cell 9
                have r10 : W9.cell? ⟨w.heap.size + 1, 10, none⟩ = some (.string x.name) := k9.cell 10
                have r11 : W9.cell? ⟨w.heap.size + 1, 11, none⟩ = some (.string x.to) := k9.cell 11
                clear k9
                have B9 := Lib.hid b9
                clear b9
                simp [bodyPost, results, Try.results22, go_sem, Rc.cells, r0, r1, r2, r3, r4, r5, r6, r7, r8, r9, r10, r11]
                exact B9.out
              · have b6 : ((i : Int) == 6) = false := by simp; omega
                by_cases h7 : i = 7
                · subst h7
                  have hv : (⟨#[]⟩ : ByteArray).size ≤ maxLen := by decide
                  refine ⟨(⟨r.k, r.proc, r.inc, r.seq, r.epoch, r.until_, r.version, r.clock, r.size, r.crc, r.name, ⟨#[]⟩⟩ : Rc), ⟨hok.1, hok.2.1, hok.2.2.1, hok.2.2.2.1, hok.2.2.2.2.1, hok.2.2.2.2.2.1, hok.2.2.2.2.2.2.1, hok.2.2.2.2.2.2.2.1, hok.2.2.2.2.2.2.2.2.1, hok.2.2.2.2.2.2.2.2.2.1, hok.2.2.2.2.2.2.2.2.2.2.1, hv⟩, fun w => ?_⟩
                  have hz : (w.alloc (.cells r.cells 24)).heap.size = w.heap.size + 1 := by simp
                  have V0 : Whole ((w.alloc (.cells r.cells 24)).alloc (.cells #[.int .u8 0, .int .u64 0, .int .u64 0, .int .u64 0, .int .u64 0, .int .u64 0, .int .u64 0, .int .u64 0, .int .u64 0, .int .u64 0, .string ⟨#[]⟩, .string ⟨#[]⟩] 24)) w.heap.size 24 r.cells := (Whole.new w 24 r.cells).alloc (.cells #[.int .u8 0, .int .u64 0, .int .u64 0, .int .u64 0, .int .u64 0, .int .u64 0, .int .u64 0, .int .u64 0, .int .u64 0, .int .u64 0, .string ⟨#[]⟩, .string ⟨#[]⟩] 24)
                  have V1 : Whole ((w.alloc (.cells r.cells 24)).alloc (.cells #[.int .u8 0, .int .u64 0, .int .u64 0, .int .u64 0, .int .u64 0, .int .u64 0, .int .u64 0, .int .u64 0, .int .u64 0, .int .u64 0, .string ⟨#[]⟩, .string ⟨#[]⟩] 24)) (w.heap.size + 1) 24 #[.int .u8 0, .int .u64 0, .int .u64 0, .int .u64 0, .int .u64 0, .int .u64 0, .int .u64 0, .int .u64 0, .int .u64 0, .int .u64 0, .string ⟨#[]⟩, .string ⟨#[]⟩] := by rw [← hz]; exact Whole.new _ _ _
                  have HB := (belowK w (.cells r.cells 24)).trans ((belowK (w.alloc (.cells r.cells 24)) (.cells #[.int .u8 0, .int .u64 0, .int .u64 0, .int .u64 0, .int .u64 0, .int .u64 0, .int .u64 0, .int .u64 0, .int .u64 0, .int .u64 0, .string ⟨#[]⟩, .string ⟨#[]⟩] 24)).mono (by rw [hz]; omega))
                  have fz := V0.frozen 11
                  have cv : ((w.alloc (.cells r.cells 24)).alloc (.cells #[.int .u8 0, .int .u64 0, .int .u64 0, .int .u64 0, .int .u64 0, .int .u64 0, .int .u64 0, .int .u64 0, .int .u64 0, .int .u64 0, .string ⟨#[]⟩, .string ⟨#[]⟩] 24)).cell? ⟨w.heap.size, 11, none⟩ = some (.string r.to) := V0.cell 11
                  have hz2 : (w.alloc (.cells (r.cells.setIfInBounds 11 (.string ⟨#[]⟩)) 24)).heap.size = w.heap.size + 1 := by simp
                  have K1 := Lib.hid (show Whole ((w.alloc (.cells (r.cells.setIfInBounds 11 (.string ⟨#[]⟩)) 24)).alloc (.cells #[.int .u8 0, .int .u64 0, .int .u64 0, .int .u64 0, .int .u64 0, .int .u64 0, .int .u64 0, .int .u64 0, .int .u64 0, .int .u64 0, .string ⟨#[]⟩, .string ⟨#[]⟩] 24)) w.heap.size 24 (r.cells.setIfInBounds 11 (.string ⟨#[]⟩)) from (Whole.new w 24 (r.cells.setIfInBounds 11 (.string ⟨#[]⟩))).alloc (.cells #[.int .u8 0, .int .u64 0, .int .u64 0, .int .u64 0, .int .u64 0, .int .u64 0, .int .u64 0, .int .u64 0, .int .u64 0, .int .u64 0, .string ⟨#[]⟩, .string ⟨#[]⟩] 24))
                  have VF := Lib.hid (show Whole ((w.alloc (.cells (r.cells.setIfInBounds 11 (.string ⟨#[]⟩)) 24)).alloc (.cells #[.int .u8 0, .int .u64 0, .int .u64 0, .int .u64 0, .int .u64 0, .int .u64 0, .int .u64 0, .int .u64 0, .int .u64 0, .int .u64 0, .string ⟨#[]⟩, .string ⟨#[]⟩] 24)) (w.heap.size + 1) 24 #[.int .u8 0, .int .u64 0, .int .u64 0, .int .u64 0, .int .u64 0, .int .u64 0, .int .u64 0, .int .u64 0, .int .u64 0, .int .u64 0, .string ⟨#[]⟩, .string ⟨#[]⟩] by rw [← hz2]; exact Whole.new _ _ _)
                  have BF := Lib.hid ((belowK w (.cells (r.cells.setIfInBounds 11 (.string ⟨#[]⟩)) 24)).trans ((belowK (w.alloc (.cells (r.cells.setIfInBounds 11 (.string ⟨#[]⟩)) 24)) (.cells #[.int .u8 0, .int .u64 0, .int .u64 0, .int .u64 0, .int .u64 0, .int .u64 0, .int .u64 0, .int .u64 0, .int .u64 0, .int .u64 0, .string ⟨#[]⟩, .string ⟨#[]⟩] 24)).mono (by rw [hz2]; omega)))
                  clear hz2
                  clear V0 V1 HB hz hok hv
                  obtain ⟨x, hx⟩ : ∃ x : Rc, (⟨r.k, r.proc, r.inc, r.seq, r.epoch, r.until_, r.version, r.clock, r.size, r.crc, r.name, ⟨#[]⟩⟩ : Rc) = x := ⟨_, rfl⟩
                  have HX := Lib.hid hx
                  rw [hx]
                  clear hx
                  go_enter Try.func22, Try.ntmps22
                  go_wp2_with (first
                    | (refine wpList_load_row rfl 24 (.tmp 2) rfl w.heap.size rfl 24 x.cells (0, 0) _ ?_ Try.underlying24 rfl (rec_size _) ?_; · rw [← HX.out]; exact K1.out)
                    | (refine wpList_store_row rfl 24 (.tmp 4) (.tmp 77) rfl (w.heap.size + 1) x.cells rfl rfl 24 _ VF.out (rec_size _) rfl (rec_cells _) ?_))
                  have k9 := VF.out.row x.cells
                  have b9 := Below.setRow BF.out (g := w.heap.size + 1) (by omega) x.cells
                  generalize World.setRow ((w.alloc (.cells (r.cells.setIfInBounds 11 (.string ⟨#[]⟩)) 24)).alloc (.cells #[.int .u8 0, .int .u64 0, .int .u64 0, .int .u64 0, .int .u64 0, .int .u64 0, .int .u64 0, .int .u64 0, .int .u64 0, .int .u64 0, .string ⟨#[]⟩, .string ⟨#[]⟩] 24)) (w.heap.size + 1) x.cells = W9 at k9 b9 ⊢
                  have r0 : W9.cell? ⟨w.heap.size + 1, 0, none⟩ = some (.int .u8 (x.k : Nat)) := k9.cell 0
                  have r1 : W9.cell? ⟨w.heap.size + 1, 1, none⟩ = some (.int .u64 (x.proc : Nat)) := k9.cell 1
                  have r2 : W9.cell? ⟨w.heap.size + 1, 2, none⟩ = some (.int .u64 (x.inc : Nat)) := k9.cell 2
                  have r3 : W9.cell? ⟨w.heap.size + 1, 3, none⟩ = some (.int .u64 (x.seq : Nat)) := k9.cell 3
                  have r4 : W9.cell? ⟨w.heap.size + 1, 4, none⟩ = some (.int .u64 (x.epoch : Nat)) := k9.cell 4
                  have r5 : W9.cell? ⟨w.heap.size + 1, 5, none⟩ = some (.int .u64 (x.until_ : Nat)) := k9.cell 5
                  have r6 : W9.cell? ⟨w.heap.size + 1, 6, none⟩ = some (.int .u64 (x.version : Nat)) := k9.cell 6
                  have r7 : W9.cell? ⟨w.heap.size + 1, 7, none⟩ = some (.int .u64 (x.clock : Nat)) := k9.cell 7
                  have r8 : W9.cell? ⟨w.heap.size + 1, 8, none⟩ = some (.int .u64 (x.size : Nat)) := k9.cell 8
                  have r9 : W9.cell? ⟨w.heap.size + 1, 9, none⟩ = some (.int .u64 (x.crc : Nat)) := k9.cell 9
                  have r10 : W9.cell? ⟨w.heap.size + 1, 10, none⟩ = some (.string x.name) := k9.cell 10
                  have r11 : W9.cell? ⟨w.heap.size + 1, 11, none⟩ = some (.string x.to) := k9.cell 11
                  clear k9
                  have B9 := Lib.hid b9
                  clear b9
                  simp [bodyPost, results, Try.results22, go_sem, Rc.cells, r0, r1, r2, r3, r4, r5, r6, r7, r8, r9, r10, r11]
                  exact B9.out
                · have b7 : ((i : Int) == 7) = false := by simp; omega
                  by_cases h8 : i = 8
                  · subst h8
                    obtain ⟨v, hv, hw⟩ : ∃ v : ByteArray, v.size ≤ maxLen ∧ r.name ++ (⟨#[120]⟩ : ByteArray) = v := ⟨_, by rw [ByteArray.size_append]; have : (⟨#[120]⟩ : ByteArray).size = 1 := rfl; unfold maxLen; omega, rfl⟩
                    refine ⟨(⟨r.k, r.proc, r.inc, r.seq, r.epoch, r.until_, r.version, r.clock, r.size, r.crc, v, r.to⟩ : Rc), ⟨hok.1, hok.2.1, hok.2.2.1, hok.2.2.2.1, hok.2.2.2.2.1, hok.2.2.2.2.2.1, hok.2.2.2.2.2.2.1, hok.2.2.2.2.2.2.2.1, hok.2.2.2.2.2.2.2.2.1, hok.2.2.2.2.2.2.2.2.2.1, hv, hok.2.2.2.2.2.2.2.2.2.2.2⟩, fun w => ?_⟩
                    have hz : (w.alloc (.cells r.cells 24)).heap.size = w.heap.size + 1 := by simp
                    have V0 : Whole ((w.alloc (.cells r.cells 24)).alloc (.cells #[.int .u8 0, .int .u64 0, .int .u64 0, .int .u64 0, .int .u64 0, .int .u64 0, .int .u64 0, .int .u64 0, .int .u64 0, .int .u64 0, .string ⟨#[]⟩, .string ⟨#[]⟩] 24)) w.heap.size 24 r.cells := (Whole.new w 24 r.cells).alloc (.cells #[.int .u8 0, .int .u64 0, .int .u64 0, .int .u64 0, .int .u64 0, .int .u64 0, .int .u64 0, .int .u64 0, .int .u64 0, .int .u64 0, .string ⟨#[]⟩, .string ⟨#[]⟩] 24)
                    have V1 : Whole ((w.alloc (.cells r.cells 24)).alloc (.cells #[.int .u8 0, .int .u64 0, .int .u64 0, .int .u64 0, .int .u64 0, .int .u64 0, .int .u64 0, .int .u64 0, .int .u64 0, .int .u64 0, .string ⟨#[]⟩, .string ⟨#[]⟩] 24)) (w.heap.size + 1) 24 #[.int .u8 0, .int .u64 0, .int .u64 0, .int .u64 0, .int .u64 0, .int .u64 0, .int .u64 0, .int .u64 0, .int .u64 0, .int .u64 0, .string ⟨#[]⟩, .string ⟨#[]⟩] := by rw [← hz]; exact Whole.new _ _ _
                    have HB := (belowK w (.cells r.cells 24)).trans ((belowK (w.alloc (.cells r.cells 24)) (.cells #[.int .u8 0, .int .u64 0, .int .u64 0, .int .u64 0, .int .u64 0, .int .u64 0, .int .u64 0, .int .u64 0, .int .u64 0, .int .u64 0, .string ⟨#[]⟩, .string ⟨#[]⟩] 24)).mono (by rw [hz]; omega))
                    have fz := V0.frozen 10
                    have cv : ((w.alloc (.cells r.cells 24)).alloc (.cells #[.int .u8 0, .int .u64 0, .int .u64 0, .int .u64 0, .int .u64 0, .int .u64 0, .int .u64 0, .int .u64 0, .int .u64 0, .int .u64 0, .string ⟨#[]⟩, .string ⟨#[]⟩] 24)).cell? ⟨w.heap.size, 10, none⟩ = some (.string r.name) := V0.cell 10
                    have hz2 : (w.alloc (.cells (r.cells.setIfInBounds 10 (.string v)) 24)).heap.size = w.heap.size + 1 := by simp
                    have K1 := Lib.hid (show Whole ((w.alloc (.cells (r.cells.setIfInBounds 10 (.string v)) 24)).alloc (.cells #[.int .u8 0, .int .u64 0, .int .u64 0, .int .u64 0, .int .u64 0, .int .u64 0, .int .u64 0, .int .u64 0, .int .u64 0, .int .u64 0, .string ⟨#[]⟩, .string ⟨#[]⟩] 24)) w.heap.size 24 (r.cells.setIfInBounds 10 (.string v)) from (Whole.new w 24 (r.cells.setIfInBounds 10 (.string v))).alloc (.cells #[.int .u8 0, .int .u64 0, .int .u64 0, .int .u64 0, .int .u64 0, .int .u64 0, .int .u64 0, .int .u64 0, .int .u64 0, .int .u64 0, .string ⟨#[]⟩, .string ⟨#[]⟩] 24))
                    have VF := Lib.hid (show Whole ((w.alloc (.cells (r.cells.setIfInBounds 10 (.string v)) 24)).alloc (.cells #[.int .u8 0, .int .u64 0, .int .u64 0, .int .u64 0, .int .u64 0, .int .u64 0, .int .u64 0, .int .u64 0, .int .u64 0, .int .u64 0, .string ⟨#[]⟩, .string ⟨#[]⟩] 24)) (w.heap.size + 1) 24 #[.int .u8 0, .int .u64 0, .int .u64 0, .int .u64 0, .int .u64 0, .int .u64 0, .int .u64 0, .int .u64 0, .int .u64 0, .int .u64 0, .string ⟨#[]⟩, .string ⟨#[]⟩] by rw [← hz2]; exact Whole.new _ _ _)
                    have BF := Lib.hid ((belowK w (.cells (r.cells.setIfInBounds 10 (.string v)) 24)).trans ((belowK (w.alloc (.cells (r.cells.setIfInBounds 10 (.string v)) 24)) (.cells #[.int .u8 0, .int .u64 0, .int .u64 0, .int .u64 0, .int .u64 0, .int .u64 0, .int .u64 0, .int .u64 0, .int .u64 0, .int .u64 0, .string ⟨#[]⟩, .string ⟨#[]⟩] 24)).mono (by rw [hz2]; omega)))
                    clear hz2
                    clear V0 V1 HB hz hok hv
                    obtain ⟨x, hx⟩ : ∃ x : Rc, (⟨r.k, r.proc, r.inc, r.seq, r.epoch, r.until_, r.version, r.clock, r.size, r.crc, v, r.to⟩ : Rc) = x := ⟨_, rfl⟩
                    have HX := Lib.hid hx
                    rw [hx]
                    clear hx
                    go_enter Try.func22, Try.ntmps22
                    go_wp2_with (first
                      | (refine wpList_load_row rfl 24 (.tmp 2) rfl w.heap.size rfl 24 x.cells (0, 0) _ ?_ Try.underlying24 rfl (rec_size _) ?_; · rw [← HX.out]; exact K1.out)
                      | (refine wpList_store_row rfl 24 (.tmp 4) (.tmp 77) rfl (w.heap.size + 1) x.cells rfl rfl 24 _ VF.out (rec_size _) rfl (rec_cells _) ?_))
                    have k9 := VF.out.row x.cells
                    have b9 := Below.setRow BF.out (g := w.heap.size + 1) (by omega) x.cells
                    generalize World.setRow ((w.alloc (.cells (r.cells.setIfInBounds 10 (.string v)) 24)).alloc (.cells #[.int .u8 0, .int .u64 0, .int .u64 0, .int .u64 0, .int .u64 0, .int .u64 0, .int .u64 0, .int .u64 0, .int .u64 0, .int .u64 0, .string ⟨#[]⟩, .string ⟨#[]⟩] 24)) (w.heap.size + 1) x.cells = W9 at k9 b9 ⊢
                    have r0 : W9.cell? ⟨w.heap.size + 1, 0, none⟩ = some (.int .u8 (x.k : Nat)) := k9.cell 0
                    have r1 : W9.cell? ⟨w.heap.size + 1, 1, none⟩ = some (.int .u64 (x.proc : Nat)) := k9.cell 1
                    have r2 : W9.cell? ⟨w.heap.size + 1, 2, none⟩ = some (.int .u64 (x.inc : Nat)) := k9.cell 2
                    have r3 : W9.cell? ⟨w.heap.size + 1, 3, none⟩ = some (.int .u64 (x.seq : Nat)) := k9.cell 3
                    have r4 : W9.cell? ⟨w.heap.size + 1, 4, none⟩ = some (.int .u64 (x.epoch : Nat)) := k9.cell 4
                    have r5 : W9.cell? ⟨w.heap.size + 1, 5, none⟩ = some (.int .u64 (x.until_ : Nat)) := k9.cell 5
                    have r6 : W9.cell? ⟨w.heap.size + 1, 6, none⟩ = some (.int .u64 (x.version : Nat)) := k9.cell 6
                    have r7 : W9.cell? ⟨w.heap.size + 1, 7, none⟩ = some (.int .u64 (x.clock : Nat)) := k9.cell 7
                    have r8 : W9.cell? ⟨w.heap.size + 1, 8, none⟩ = some (.int .u64 (x.size : Nat)) := k9.cell 8
                    have r9 : W9.cell? ⟨w.heap.size + 1, 9, none⟩ = some (.int .u64 (x.crc : Nat)) := k9.cell 9
                    have r10 : W9.cell? ⟨w.heap.size + 1, 10, none⟩ = some (.string x.name) := k9.cell 10
                    have r11 : W9.cell? ⟨w.heap.size + 1, 11, none⟩ = some (.string x.to) := k9.cell 11
                    clear k9
                    have B9 := Lib.hid b9
                    clear b9
                    simp [bodyPost, results, Try.results22, go_sem, Rc.cells, r0, r1, r2, r3, r4, r5, r6, r7, r8, r9, r10, r11]
                    exact B9.out
                  · have b8 : ((i : Int) == 8) = false := by simp; omega
                    by_cases h9 : i = 9
                    · subst h9
                      obtain ⟨v, hv, hw⟩ : ∃ v : ByteArray, v.size ≤ maxLen ∧ r.to ++ (⟨#[120]⟩ : ByteArray) = v := ⟨_, by rw [ByteArray.size_append]; have : (⟨#[120]⟩ : ByteArray).size = 1 := rfl; unfold maxLen; omega, rfl⟩
                      refine ⟨(⟨r.k, r.proc, r.inc, r.seq, r.epoch, r.until_, r.version, r.clock, r.size, r.crc, r.name, v⟩ : Rc), ⟨hok.1, hok.2.1, hok.2.2.1, hok.2.2.2.1, hok.2.2.2.2.1, hok.2.2.2.2.2.1, hok.2.2.2.2.2.2.1, hok.2.2.2.2.2.2.2.1, hok.2.2.2.2.2.2.2.2.1, hok.2.2.2.2.2.2.2.2.2.1, hok.2.2.2.2.2.2.2.2.2.2.1, hv⟩, fun w => ?_⟩
                      have hz : (w.alloc (.cells r.cells 24)).heap.size = w.heap.size + 1 := by simp
                      have V0 : Whole ((w.alloc (.cells r.cells 24)).alloc (.cells #[.int .u8 0, .int .u64 0, .int .u64 0, .int .u64 0, .int .u64 0, .int .u64 0, .int .u64 0, .int .u64 0, .int .u64 0, .int .u64 0, .string ⟨#[]⟩, .string ⟨#[]⟩] 24)) w.heap.size 24 r.cells := (Whole.new w 24 r.cells).alloc (.cells #[.int .u8 0, .int .u64 0, .int .u64 0, .int .u64 0, .int .u64 0, .int .u64 0, .int .u64 0, .int .u64 0, .int .u64 0, .int .u64 0, .string ⟨#[]⟩, .string ⟨#[]⟩] 24)
                      have V1 : Whole ((w.alloc (.cells r.cells 24)).alloc (.cells #[.int .u8 0, .int .u64 0, .int .u64 0, .int .u64 0, .int .u64 0, .int .u64 0, .int .u64 0, .int .u64 0, .int .u64 0, .int .u64 0, .string ⟨#[]⟩, .string ⟨#[]⟩] 24)) (w.heap.size + 1) 24 #[.int .u8 0, .int .u64 0, .int .u64 0, .int .u64 0, .int .u64 0, .int .u64 0, .int .u64 0, .int .u64 0, .int .u64 0, .int .u64 0, .string ⟨#[]⟩, .string ⟨#[]⟩] := by rw [← hz]; exact Whole.new _ _ _
                      have HB := (belowK w (.cells r.cells 24)).trans ((belowK (w.alloc (.cells r.cells 24)) (.cells #[.int .u8 0, .int .u64 0, .int .u64 0, .int .u64 0, .int .u64 0, .int .u64 0, .int .u64 0, .int .u64 0, .int .u64 0, .int .u64 0, .string ⟨#[]⟩, .string ⟨#[]⟩] 24)).mono (by rw [hz]; omega))
                      have fz := V0.frozen 11
                      have cv : ((w.alloc (.cells r.cells 24)).alloc (.cells #[.int .u8 0, .int .u64 0, .int .u64 0, .int .u64 0, .int .u64 0, .int .u64 0, .int .u64 0, .int .u64 0, .int .u64 0, .int .u64 0, .string ⟨#[]⟩, .string ⟨#[]⟩] 24)).cell? ⟨w.heap.size, 11, none⟩ = some (.string r.to) := V0.cell 11
                      have hz2 : (w.alloc (.cells (r.cells.setIfInBounds 11 (.string v)) 24)).heap.size = w.heap.size + 1 := by simp
                      have K1 := Lib.hid (show Whole ((w.alloc (.cells (r.cells.setIfInBounds 11 (.string v)) 24)).alloc (.cells #[.int .u8 0, .int .u64 0, .int .u64 0, .int .u64 0, .int .u64 0, .int .u64 0, .int .u64 0, .int .u64 0, .int .u64 0, .int .u64 0, .string ⟨#[]⟩, .string ⟨#[]⟩] 24)) w.heap.size 24 (r.cells.setIfInBounds 11 (.string v)) from (Whole.new w 24 (r.cells.setIfInBounds 11 (.string v))).alloc (.cells #[.int .u8 0, .int .u64 0, .int .u64 0, .int .u64 0, .int .u64 0, .int .u64 0, .int .u64 0, .int .u64 0, .int .u64 0, .int .u64 0, .string ⟨#[]⟩, .string ⟨#[]⟩] 24))
                      have VF := Lib.hid (show Whole ((w.alloc (.cells (r.cells.setIfInBounds 11 (.string v)) 24)).alloc (.cells #[.int .u8 0, .int .u64 0, .int .u64 0, .int .u64 0, .int .u64 0, .int .u64 0, .int .u64 0, .int .u64 0, .int .u64 0, .int .u64 0, .string ⟨#[]⟩, .string ⟨#[]⟩] 24)) (w.heap.size + 1) 24 #[.int .u8 0, .int .u64 0, .int .u64 0, .int .u64 0, .int .u64 0, .int .u64 0, .int .u64 0, .int .u64 0, .int .u64 0, .int .u64 0, .string ⟨#[]⟩, .string ⟨#[]⟩] by rw [← hz2]; exact Whole.new _ _ _)
                      have BF := Lib.hid ((belowK w (.cells (r.cells.setIfInBounds 11 (.string v)) 24)).trans ((belowK (w.alloc (.cells (r.cells.setIfInBounds 11 (.string v)) 24)) (.cells #[.int .u8 0, .int .u64 0, .int .u64 0, .int .u64 0, .int .u64 0, .int .u64 0, .int .u64 0, .int .u64 0, .int .u64 0, .int .u64 0, .string ⟨#[]⟩, .string ⟨#[]⟩] 24)).mono (by rw [hz2]; omega)))
                      clear hz2
                      clear V0 V1 HB hz hok hv
                      obtain ⟨x, hx⟩ : ∃ x : Rc, (⟨r.k, r.proc, r.inc, r.seq, r.epoch, r.until_, r.version, r.clock, r.size, r.crc, r.name, v⟩ : Rc) = x := ⟨_, rfl⟩
                      have HX := Lib.hid hx
                      rw [hx]
                      clear hx
                      go_enter Try.func22, Try.ntmps22
                      go_wp2_with (first
                        | (refine wpList_load_row rfl 24 (.tmp 2) rfl w.heap.size rfl 24 x.cells (0, 0) _ ?_ Try.underlying24 rfl (rec_size _) ?_; · rw [← HX.out]; exact K1.out)
                        | (refine wpList_store_row rfl 24 (.tmp 4) (.tmp 77) rfl (w.heap.size + 1) x.cells rfl rfl 24 _ VF.out (rec_size _) rfl (rec_cells _) ?_))
                      have k9 := VF.out.row x.cells
                      have b9 := Below.setRow BF.out (g := w.heap.size + 1) (by omega) x.cells
                      generalize World.setRow ((w.alloc (.cells (r.cells.setIfInBounds 11 (.string v)) 24)).alloc (.cells #[.int .u8 0, .int .u64 0, .int .u64 0, .int .u64 0, .int .u64 0, .int .u64 0, .int .u64 0, .int .u64 0, .int .u64 0, .int .u64 0, .string ⟨#[]⟩, .string ⟨#[]⟩] 24)) (w.heap.size + 1) x.cells = W9 at k9 b9 ⊢
                      have r0 : W9.cell? ⟨w.heap.size + 1, 0, none⟩ = some (.int .u8 (x.k : Nat)) := k9.cell 0
                      have r1 : W9.cell? ⟨w.heap.size + 1, 1, none⟩ = some (.int .u64 (x.proc : Nat)) := k9.cell 1
                      have r2 : W9.cell? ⟨w.heap.size + 1, 2, none⟩ = some (.int .u64 (x.inc : Nat)) := k9.cell 2
                      have r3 : W9.cell? ⟨w.heap.size + 1, 3, none⟩ = some (.int .u64 (x.seq : Nat)) := k9.cell 3
                      have r4 : W9.cell? ⟨w.heap.size + 1, 4, none⟩ = some (.int .u64 (x.epoch : Nat)) := k9.cell 4
                      have r5 : W9.cell? ⟨w.heap.size + 1, 5, none⟩ = some (.int .u64 (x.until_ : Nat)) := k9.cell 5
                      have r6 : W9.cell? ⟨w.heap.size + 1, 6, none⟩ = some (.int .u64 (x.version : Nat)) := k9.cell 6
                      have r7 : W9.cell? ⟨w.heap.size + 1, 7, none⟩ = some (.int .u64 (x.clock : Nat)) := k9.cell 7
                      have r8 : W9.cell? ⟨w.heap.size + 1, 8, none⟩ = some (.int .u64 (x.size : Nat)) := k9.cell 8
                      have r9 : W9.cell? ⟨w.heap.size + 1, 9, none⟩ = some (.int .u64 (x.crc : Nat)) := k9.cell 9
                      have r10 : W9.cell? ⟨w.heap.size + 1, 10, none⟩ = some (.string x.name) := k9.cell 10
                      have r11 : W9.cell? ⟨w.heap.size + 1, 11, none⟩ = some (.string x.to) := k9.cell 11
                      clear k9
                      have B9 := Lib.hid b9
                      clear b9
                      simp [bodyPost, results, Try.results22, go_sem, Rc.cells, r0, r1, r2, r3, r4, r5, r6, r7, r8, r9, r10, r11]
                      exact B9.out
                    · have b9 : ((i : Int) == 9) = false := by simp; omega
                      by_cases h10 : i = 10
                      · subst h10
                        obtain ⟨v, hv, hw⟩ : ∃ v : ByteArray, v.size ≤ maxLen ∧ (⟨(List.replicate 64 (0 : UInt8)).toArray⟩ : ByteArray) = v := ⟨_, by decide, rfl⟩
                        refine ⟨(⟨r.k, r.proc, r.inc, r.seq, r.epoch, r.until_, r.version, r.clock, r.size, r.crc, v, r.to⟩ : Rc), ⟨hok.1, hok.2.1, hok.2.2.1, hok.2.2.2.1, hok.2.2.2.2.1, hok.2.2.2.2.2.1, hok.2.2.2.2.2.2.1, hok.2.2.2.2.2.2.2.1, hok.2.2.2.2.2.2.2.2.1, hok.2.2.2.2.2.2.2.2.2.1, hv, hok.2.2.2.2.2.2.2.2.2.2.2⟩, fun w => ?_⟩
                        obtain ⟨ZR, hZR⟩ : ∃ Z, zrow 64 = Z := ⟨_, rfl⟩
                        have hm1 := fun w => run_make_bytes (P := Try.prog) Try.underlying27 (show (Try.prog.info? 5).map (fun i => (i.zero, i.size, i.bytes)) = some (some (.int .u8 0), 1, 1) by kernel_rfl) .i64 .i64 64 (by omega) w
                        rw [hZR] at hm1
                        have hm : ∀ w, (Instr.makeSlice 27 (.int .i64 64) (.int .i64 64)).run Try.prog w = .ok (.slice (some ⟨w.heap.size, 0, none⟩) 64 64) (w.alloc (.cells ZR 5)) := hm1
                        have hz : (w.alloc (.cells r.cells 24)).heap.size = w.heap.size + 1 := by simp
                        have hz0 : ((w.alloc (.cells r.cells 24)).alloc (.cells #[.int .u8 0, .int .u64 0, .int .u64 0, .int .u64 0, .int .u64 0, .int .u64 0, .int .u64 0, .int .u64 0, .int .u64 0, .int .u64 0, .string ⟨#[]⟩, .string ⟨#[]⟩] 24)).heap.size = w.heap.size + 1 + 1 := by simp
                        have V0 : Whole (((w.alloc (.cells r.cells 24)).alloc (.cells #[.int .u8 0, .int .u64 0, .int .u64 0, .int .u64 0, .int .u64 0, .int .u64 0, .int .u64 0, .int .u64 0, .int .u64 0, .int .u64 0, .string ⟨#[]⟩, .string ⟨#[]⟩] 24)).alloc (.cells ZR 5)) w.heap.size 24 r.cells := ((Whole.new w 24 r.cells).alloc (.cells #[.int .u8 0, .int .u64 0, .int .u64 0, .int .u64 0, .int .u64 0, .int .u64 0, .int .u64 0, .int .u64 0, .int .u64 0, .int .u64 0, .string ⟨#[]⟩, .string ⟨#[]⟩] 24)).alloc (.cells ZR 5)
                        have hrd : Rd (((w.alloc (.cells r.cells 24)).alloc (.cells #[.int .u8 0, .int .u64 0, .int .u64 0, .int .u64 0, .int .u64 0, .int .u64 0, .int .u64 0, .int .u64 0, .int .u64 0, .int .u64 0, .string ⟨#[]⟩, .string ⟨#[]⟩] 24)).alloc (.cells ZR 5)) (((w.alloc (.cells r.cells 24)).alloc (.cells #[.int .u8 0, .int .u64 0, .int .u64 0, .int .u64 0, .int .u64 0, .int .u64 0, .int .u64 0, .int .u64 0, .int .u64 0, .int .u64 0, .string ⟨#[]⟩, .string ⟨#[]⟩] 24)).heap.size + 1) 1 (some ⟨((w.alloc (.cells r.cells 24)).alloc (.cells #[.int .u8 0, .int .u64 0, .int .u64 0, .int .u64 0, .int .u64 0, .int .u64 0, .int .u64 0, .int .u64 0, .int .u64 0, .int .u64 0, .string ⟨#[]⟩, .string ⟨#[]⟩] 24)).heap.size, 0, none⟩) 64 (byts (List.replicate 64 0)) := by
                          have h1 : ZR.toList.take 64 = byts (List.replicate 64 0) := by rw [← hZR, zrow_byts, List.take_of_length_le (by rw [byts_length, List.length_replicate]; exact Nat.le_refl _)]
                          rw [← h1]
                          exact Rd.of_heap (Whole.new ((w.alloc (.cells r.cells 24)).alloc (.cells #[.int .u8 0, .int .u64 0, .int .u64 0, .int .u64 0, .int .u64 0, .int .u64 0, .int .u64 0, .int .u64 0, .int .u64 0, .int .u64 0, .string ⟨#[]⟩, .string ⟨#[]⟩] 24)) 5 ZR) (Nat.lt_succ_self _) (by rw [← hZR, zrow_size]; exact Nat.le_refl _)
                        rw [hz0] at hrd
                        have hcv : (convert 27 9 (.slice (some ⟨w.heap.size + 1 + 1, 0, none⟩) 64 64)).run Try.prog (((w.alloc (.cells r.cells 24)).alloc (.cells #[.int .u8 0, .int .u64 0, .int .u64 0, .int .u64 0, .int .u64 0, .int .u64 0, .int .u64 0, .int .u64 0, .int .u64 0, .int .u64 0, .string ⟨#[]⟩, .string ⟨#[]⟩] 24)).alloc (.cells ZR 5)) = .ok (.string v) (((w.alloc (.cells r.cells 24)).alloc (.cells #[.int .u8 0, .int .u64 0, .int .u64 0, .int .u64 0, .int .u64 0, .int .u64 0, .int .u64 0, .int .u64 0, .int .u64 0, .int .u64 0, .string ⟨#[]⟩, .string ⟨#[]⟩] 24)).alloc (.cells ZR 5)) := by
                          rw [← hw]
                          exact run_string_of (P := Try.prog) (w := (((w.alloc (.cells r.cells 24)).alloc (.cells #[.int .u8 0, .int .u64 0, .int .u64 0, .int .u64 0, .int .u64 0, .int .u64 0, .int .u64 0, .int .u64 0, .int .u64 0, .int .u64 0, .string ⟨#[]⟩, .string ⟨#[]⟩] 24)).alloc (.cells ZR 5))) (d := 9) Try.underlying27 Try.underlying5 Try.underlying9 hrd 64
                        have fz := V0.frozen 10
                        have cv : (((w.alloc (.cells r.cells 24)).alloc (.cells #[.int .u8 0, .int .u64 0, .int .u64 0, .int .u64 0, .int .u64 0, .int .u64 0, .int .u64 0, .int .u64 0, .int .u64 0, .int .u64 0, .string ⟨#[]⟩, .string ⟨#[]⟩] 24)).alloc (.cells ZR 5)).cell? ⟨w.heap.size, 10, none⟩ = some (.string r.name) := V0.cell 10
                        clear hm1 hrd hZR
                        have hz2 : (w.alloc (.cells (r.cells.setIfInBounds 10 (.string v)) 24)).heap.size = w.heap.size + 1 := by simp
                        have K1 := Lib.hid (show Whole (((w.alloc (.cells (r.cells.setIfInBounds 10 (.string v)) 24)).alloc (.cells #[.int .u8 0, .int .u64 0, .int .u64 0, .int .u64 0, .int .u64 0, .int .u64 0, .int .u64 0, .int .u64 0, .int .u64 0, .int .u64 0, .string ⟨#[]⟩, .string ⟨#[]⟩] 24)).alloc (.cells ZR 5)) w.heap.size 24 (r.cells.setIfInBounds 10 (.string v)) from ((Whole.new w 24 (r.cells.setIfInBounds 10 (.string v))).alloc (.cells #[.int .u8 0, .int .u64 0, .int .u64 0, .int .u64 0, .int .u64 0, .int .u64 0, .int .u64 0, .int .u64 0, .int .u64 0, .int .u64 0, .string ⟨#[]⟩, .string ⟨#[]⟩] 24)).alloc (.cells ZR 5))
                        have VF := Lib.hid (show Whole (((w.alloc (.cells (r.cells.setIfInBounds 10 (.string v)) 24)).alloc (.cells #[.int .u8 0, .int .u64 0, .int .u64 0, .int .u64 0, .int .u64 0, .int .u64 0, .int .u64 0, .int .u64 0, .int .u64 0, .int .u64 0, .string ⟨#[]⟩, .string ⟨#[]⟩] 24)).alloc (.cells ZR 5)) (w.heap.size + 1) 24 #[.int .u8 0, .int .u64 0, .int .u64 0, .int .u64 0, .int .u64 0, .int .u64 0, .int .u64 0, .int .u64 0, .int .u64 0, .int .u64 0, .string ⟨#[]⟩, .string ⟨#[]⟩] by rw [← hz2]; exact (Whole.new _ _ _).alloc _)
                        have BF := Lib.hid (((belowK w (.cells (r.cells.setIfInBounds 10 (.string v)) 24)).trans ((belowK (w.alloc (.cells (r.cells.setIfInBounds 10 (.string v)) 24)) (.cells #[.int .u8 0, .int .u64 0, .int .u64 0, .int .u64 0, .int .u64 0, .int .u64 0, .int .u64 0, .int .u64 0, .int .u64 0, .int .u64 0, .string ⟨#[]⟩, .string ⟨#[]⟩] 24)).mono (by rw [hz2]; omega))).alloc (by simp; omega) (.cells ZR 5))
                        clear hz2 hz0 hz V0 hok hv hw
                        obtain ⟨x, hx⟩ : ∃ x : Rc, (⟨r.k, r.proc, r.inc, r.seq, r.epoch, r.until_, r.version, r.clock, r.size, r.crc, v, r.to⟩ : Rc) = x := ⟨_, rfl⟩
                        have HX := Lib.hid hx
                        rw [hx]
                        clear hx
                        go_enter Try.func22, Try.ntmps22
                        go_wp2_with (first
                          | (refine wpList_load_row rfl 24 (.tmp 2) rfl w.heap.size rfl 24 x.cells (0, 0) _ ?_ Try.underlying24 rfl (rec_size _) ?_; · rw [← HX.out]; exact K1.out)
                          | (refine wpList_store_row rfl 24 (.tmp 4) (.tmp 77) rfl (w.heap.size + 1) x.cells rfl rfl 24 _ VF.out (rec_size _) rfl (rec_cells _) ?_))
                        have k9 := VF.out.row x.cells
                        have b9 := Below.setRow BF.out (g := w.heap.size + 1) (by omega) x.cells
                        generalize World.setRow (((w.alloc (.cells (r.cells.setIfInBounds 10 (.string v)) 24)).alloc (.cells #[.int .u8 0, .int .u64 0, .int .u64 0, .int .u64 0, .int .u64 0, .int .u64 0, .int .u64 0, .int .u64 0, .int .u64 0, .int .u64 0, .string ⟨#[]⟩, .string ⟨#[]⟩] 24)).alloc (.cells ZR 5)) (w.heap.size + 1) x.cells = W9 at k9 b9 ⊢
                        have r0 : W9.cell? ⟨w.heap.size + 1, 0, none⟩ = some (.int .u8 (x.k : Nat)) := k9.cell 0
                        have r1 : W9.cell? ⟨w.heap.size + 1, 1, none⟩ = some (.int .u64 (x.proc : Nat)) := k9.cell 1
                        have r2 : W9.cell? ⟨w.heap.size + 1, 2, none⟩ = some (.int .u64 (x.inc : Nat)) := k9.cell 2
                        have r3 : W9.cell? ⟨w.heap.size + 1, 3, none⟩ = some (.int .u64 (x.seq : Nat)) := k9.cell 3
                        have r4 : W9.cell? ⟨w.heap.size + 1, 4, none⟩ = some (.int .u64 (x.epoch : Nat)) := k9.cell 4
                        have r5 : W9.cell? ⟨w.heap.size + 1, 5, none⟩ = some (.int .u64 (x.until_ : Nat)) := k9.cell 5
                        have r6 : W9.cell? ⟨w.heap.size + 1, 6, none⟩ = some (.int .u64 (x.version : Nat)) := k9.cell 6
                        have r7 : W9.cell? ⟨w.heap.size + 1, 7, none⟩ = some (.int .u64 (x.clock : Nat)) := k9.cell 7
                        have r8 : W9.cell? ⟨w.heap.size + 1, 8, none⟩ = some (.int .u64 (x.size : Nat)) := k9.cell 8
                        have r9 : W9.cell? ⟨w.heap.size + 1, 9, none⟩ = some (.int .u64 (x.crc : Nat)) := k9.cell 9
                        have r10 : W9.cell? ⟨w.heap.size + 1, 10, none⟩ = some (.string x.name) := k9.cell 10
                        have r11 : W9.cell? ⟨w.heap.size + 1, 11, none⟩ = some (.string x.to) := k9.cell 11
                        clear k9
                        have B9 := Lib.hid b9
                        clear b9
                        simp [bodyPost, results, Try.results22, go_sem, Rc.cells, r0, r1, r2, r3, r4, r5, r6, r7, r8, r9, r10, r11]
                        exact B9.out
                      · have b10 : ((i : Int) == 10) = false := by simp; omega
                        by_cases h11 : i = 11
                        · subst h11
                          obtain ⟨v, hv, hw⟩ : ∃ v : ByteArray, v.size ≤ maxLen ∧ (⟨(List.replicate 65 (0 : UInt8)).toArray⟩ : ByteArray) = v := ⟨_, by decide, rfl⟩
                          refine ⟨(⟨r.k, r.proc, r.inc, r.seq, r.epoch, r.until_, r.version, r.clock, r.size, r.crc, v, r.to⟩ : Rc), ⟨hok.1, hok.2.1, hok.2.2.1, hok.2.2.2.1, hok.2.2.2.2.1, hok.2.2.2.2.2.1, hok.2.2.2.2.2.2.1, hok.2.2.2.2.2.2.2.1, hok.2.2.2.2.2.2.2.2.1, hok.2.2.2.2.2.2.2.2.2.1, hv, hok.2.2.2.2.2.2.2.2.2.2.2⟩, fun w => ?_⟩
                          obtain ⟨ZR, hZR⟩ : ∃ Z, zrow 65 = Z := ⟨_, rfl⟩
                          have hm1 := fun w => run_make_bytes (P := Try.prog) Try.underlying27 (show (Try.prog.info? 5).map (fun i => (i.zero, i.size, i.bytes)) = some (some (.int .u8 0), 1, 1) by kernel_rfl) .i64 .i64 65 (by omega) w
                          rw [hZR] at hm1
                          have hm : ∀ w, (Instr.makeSlice 27 (.int .i64 65) (.int .i64 65)).run Try.prog w = .ok (.slice (some ⟨w.heap.size, 0, none⟩) 65 65) (w.alloc (.cells ZR 5)) := hm1
                          have hz : (w.alloc (.cells r.cells 24)).heap.size = w.heap.size + 1 := by simp
                          have hz0 : ((w.alloc (.cells r.cells 24)).alloc (.cells #[.int .u8 0, .int .u64 0, .int .u64 0, .int .u64 0, .int .u64 0, .int .u64 0, .int .u64 0, .int .u64 0, .int .u64 0, .int .u64 0, .string ⟨#[]⟩, .string ⟨#[]⟩] 24)).heap.size = w.heap.size + 1 + 1 := by simp
                          have V0 : Whole (((w.alloc (.cells r.cells 24)).alloc (.cells #[.int .u8 0, .int .u64 0, .int .u64 0, .int .u64 0, .int .u64 0, .int .u64 0, .int .u64 0, .int .u64 0, .int .u64 0, .int .u64 0, .string ⟨#[]⟩, .string ⟨#[]⟩] 24)).alloc (.cells ZR 5)) w.heap.size 24 r.cells := ((Whole.new w 24 r.cells).alloc (.cells #[.int .u8 0, .int .u64 0, .int .u64 0, .int .u64 0, .int .u64 0, .int .u64 0, .int .u64 0, .int .u64 0, .int .u64 0, .int .u64 0, .string ⟨#[]⟩, .string ⟨#[]⟩] 24)).alloc (.cells ZR 5)
                          have hrd : Rd (((w.alloc (.cells r.cells 24)).alloc (.cells #[.int .u8 0, .int .u64 0, .int .u64 0, .int .u64 0, .int .u64 0, .int .u64 0, .int .u64 0, .int .u64 0, .int .u64 0, .int .u64 0, .string ⟨#[]⟩, .string ⟨#[]⟩] 24)).alloc (.cells ZR 5)) (((w.alloc (.cells r.cells 24)).alloc (.cells #[.int .u8 0, .int .u64 0, .int .u64 0, .int .u64 0, .int .u64 0, .int .u64 0, .int .u64 0, .int .u64 0, .int .u64 0, .int .u64 0, .string ⟨#[]⟩, .string ⟨#[]⟩] 24)).heap.size + 1) 1 (some ⟨((w.alloc (.cells r.cells 24)).alloc (.cells #[.int .u8 0, .int .u64 0, .int .u64 0, .int .u64 0, .int .u64 0, .int .u64 0, .int .u64 0, .int .u64 0, .int .u64 0, .int .u64 0, .string ⟨#[]⟩, .string ⟨#[]⟩] 24)).heap.size, 0, none⟩) 65 (byts (List.replicate 65 0)) := by
                            have h1 : ZR.toList.take 65 = byts (List.replicate 65 0) := by rw [← hZR, zrow_byts, List.take_of_length_le (by rw [byts_length, List.length_replicate]; exact Nat.le_refl _)]
                            rw [← h1]
                            exact Rd.of_heap (Whole.new ((w.alloc (.cells r.cells 24)).alloc (.cells #[.int .u8 0, .int .u64 0, .int .u64 0, .int .u64 0, .int .u64 0, .int .u64 0, .int .u64 0, .int .u64 0, .int .u64 0, .int .u64 0, .string ⟨#[]⟩, .string ⟨#[]⟩] 24)) 5 ZR) (Nat.lt_succ_self _) (by rw [← hZR, zrow_size]; exact Nat.le_refl _)
                          rw [hz0] at hrd
                          have hcv : (convert 27 9 (.slice (some ⟨w.heap.size + 1 + 1, 0, none⟩) 65 65)).run Try.prog (((w.alloc (.cells r.cells 24)).alloc (.cells #[.int .u8 0, .int .u64 0, .int .u64 0, .int .u64 0, .int .u64 0, .int .u64 0, .int .u64 0, .int .u64 0, .int .u64 0, .int .u64 0, .string ⟨#[]⟩, .string ⟨#[]⟩] 24)).alloc (.cells ZR 5)) = .ok (.string v) (((w.alloc (.cells r.cells 24)).alloc (.cells #[.int .u8 0, .int .u64 0, .int .u64 0, .int .u64 0, .int .u64 0, .int .u64 0, .int .u64 0, .int .u64 0, .int .u64 0, .int .u64 0, .string ⟨#[]⟩, .string ⟨#[]⟩] 24)).alloc (.cells ZR 5)) := by
                            rw [← hw]
                            exact run_string_of (P := Try.prog) (w := (((w.alloc (.cells r.cells 24)).alloc (.cells #[.int .u8 0, .int .u64 0, .int .u64 0, .int .u64 0, .int .u64 0, .int .u64 0, .int .u64 0, .int .u64 0, .int .u64 0, .int .u64 0, .string ⟨#[]⟩, .string ⟨#[]⟩] 24)).alloc (.cells ZR 5))) (d := 9) Try.underlying27 Try.underlying5 Try.underlying9 hrd 65
                          have fz := V0.frozen 10
                          have cv : (((w.alloc (.cells r.cells 24)).alloc (.cells #[.int .u8 0, .int .u64 0, .int .u64 0, .int .u64 0, .int .u64 0, .int .u64 0, .int .u64 0, .int .u64 0, .int .u64 0, .int .u64 0, .string ⟨#[]⟩, .string ⟨#[]⟩] 24)).alloc (.cells ZR 5)).cell? ⟨w.heap.size, 10, none⟩ = some (.string r.name) := V0.cell 10
                          clear hm1 hrd hZR
                          have hz2 : (w.alloc (.cells (r.cells.setIfInBounds 10 (.string v)) 24)).heap.size = w.heap.size + 1 := by simp
                          have K1 := Lib.hid (show Whole (((w.alloc (.cells (r.cells.setIfInBounds 10 (.string v)) 24)).alloc (.cells #[.int .u8 0, .int .u64 0, .int .u64 0, .int .u64 0, .int .u64 0, .int .u64 0, .int .u64 0, .int .u64 0, .int .u64 0, .int .u64 0, .string ⟨#[]⟩, .string ⟨#[]⟩] 24)).alloc (.cells ZR 5)) w.heap.size 24 (r.cells.setIfInBounds 10 (.string v)) from ((Whole.new w 24 (r.cells.setIfInBounds 10 (.string v))).alloc (.cells #[.int .u8 0, .int .u64 0, .int .u64 0, .int .u64 0, .int .u64 0, .int .u64 0, .int .u64 0, .int .u64 0, .int .u64 0, .int .u64 0, .string ⟨#[]⟩, .string ⟨#[]⟩] 24)).alloc (.cells ZR 5))
                          have VF := Lib.hid (show Whole (((w.alloc (.cells (r.cells.setIfInBounds 10 (.string v)) 24)).alloc (.cells #[.int .u8 0, .int .u64 0, .int .u64 0, .int .u64 0, .int .u64 0, .int .u64 0, .int .u64 0, .int .u64 0, .int .u64 0, .int .u64 0, .string ⟨#[]⟩, .string ⟨#[]⟩] 24)).alloc (.cells ZR 5)) (w.heap.size + 1) 24 #[.int .u8 0, .int .u64 0, .int .u64 0, .int .u64 0, .int .u64 0, .int .u64 0, .int .u64 0, .int .u64 0, .int .u64 0, .int .u64 0, .string ⟨#[]⟩, .string ⟨#[]⟩] by rw [← hz2]; exact (Whole.new _ _ _).alloc _)
                          have BF := Lib.hid (((belowK w (.cells (r.cells.setIfInBounds 10 (.string v)) 24)).trans ((belowK (w.alloc (.cells (r.cells.setIfInBounds 10 (.string v)) 24)) (.cells #[.int .u8 0, .int .u64 0, .int .u64 0, .int .u64 0, .int .u64 0, .int .u64 0, .int .u64 0, .int .u64 0, .int .u64 0, .int .u64 0, .string ⟨#[]⟩, .string ⟨#[]⟩] 24)).mono (by rw [hz2]; omega))).alloc (by simp; omega) (.cells ZR 5))
                          clear hz2 hz0 hz V0 hok hv hw
                          obtain ⟨x, hx⟩ : ∃ x : Rc, (⟨r.k, r.proc, r.inc, r.seq, r.epoch, r.until_, r.version, r.clock, r.size, r.crc, v, r.to⟩ : Rc) = x := ⟨_, rfl⟩
                          have HX := Lib.hid hx
                          rw [hx]
                          clear hx
                          go_enter Try.func22, Try.ntmps22
                          go_wp2_with (first
                            | (refine wpList_load_row rfl 24 (.tmp 2) rfl w.heap.size rfl 24 x.cells (0, 0) _ ?_ Try.underlying24 rfl (rec_size _) ?_; · rw [← HX.out]; exact K1.out)
                            | (refine wpList_store_row rfl 24 (.tmp 4) (.tmp 77) rfl (w.heap.size + 1) x.cells rfl rfl 24 _ VF.out (rec_size _) rfl (rec_cells _) ?_))
                          have k9 := VF.out.row x.cells
                          have b9 := Below.setRow BF.out (g := w.heap.size + 1) (by omega) x.cells
                          generalize World.setRow (((w.alloc (.cells (r.cells.setIfInBounds 10 (.string v)) 24)).alloc (.cells #[.int .u8 0, .int .u64 0, .int .u64 0, .int .u64 0, .int .u64 0, .int .u64 0, .int .u64 0, .int .u64 0, .int .u64 0, .int .u64 0, .string ⟨#[]⟩, .string ⟨#[]⟩] 24)).alloc (.cells ZR 5)) (w.heap.size + 1) x.cells = W9 at k9 b9 ⊢
                          have r0 : W9.cell? ⟨w.heap.size + 1, 0, none⟩ = some (.int .u8 (x.k : Nat)) := k9.cell 0
                          have r1 : W9.cell? ⟨w.heap.size + 1, 1, none⟩ = some (.int .u64 (x.proc : Nat)) := k9.cell 1
                          have r2 : W9.cell? ⟨w.heap.size + 1, 2, none⟩ = some (.int .u64 (x.inc : Nat)) := k9.cell 2
                          have r3 : W9.cell? ⟨w.heap.size + 1, 3, none⟩ = some (.int .u64 (x.seq : Nat)) := k9.cell 3
                          have r4 : W9.cell? ⟨w.heap.size + 1, 4, none⟩ = some (.int .u64 (x.epoch : Nat)) := k9.cell 4
                          have r5 : W9.cell? ⟨w.heap.size + 1, 5, none⟩ = some (.int .u64 (x.until_ : Nat)) := k9.cell 5
                          have r6 : W9.cell? ⟨w.heap.size + 1, 6, none⟩ = some (.int .u64 (x.version : Nat)) := k9.cell 6
                          have r7 : W9.cell? ⟨w.heap.size + 1, 7, none⟩ = some (.int .u64 (x.clock : Nat)) := k9.cell 7
                          have r8 : W9.cell? ⟨w.heap.size + 1, 8, none⟩ = some (.int .u64 (x.size : Nat)) := k9.cell 8
                          have r9 : W9.cell? ⟨w.heap.size + 1, 9, none⟩ = some (.int .u64 (x.crc : Nat)) := k9.cell 9
                          have r10 : W9.cell? ⟨w.heap.size + 1, 10, none⟩ = some (.string x.name) := k9.cell 10
                          have r11 : W9.cell? ⟨w.heap.size + 1, 11, none⟩ = some (.string x.to) := k9.cell 11
                          clear k9
                          have B9 := Lib.hid b9
                          clear b9
                          simp [bodyPost, results, Try.results22, go_sem, Rc.cells, r0, r1, r2, r3, r4, r5, r6, r7, r8, r9, r10, r11]
                          exact B9.out
                        · have b11 : ((i : Int) == 11) = false := by simp; omega
                          by_cases h12 : i = 12
                          · subst h12
                            obtain ⟨v, hv, hw⟩ : ∃ v : Nat, v < 256 ∧ IntKind.u8.wrap ((r.k : Int) + 1) = (v : Int) := ⟨(r.k + 1) % 256, by omega, by rw [IntKind.wrap_u8]; omega⟩
                            refine ⟨(⟨v, r.proc, r.inc, r.seq, r.epoch, r.until_, r.version, r.clock, r.size, r.crc, r.name, r.to⟩ : Rc), ⟨hv, hok.2.1, hok.2.2.1, hok.2.2.2.1, hok.2.2.2.2.1, hok.2.2.2.2.2.1, hok.2.2.2.2.2.2.1, hok.2.2.2.2.2.2.2.1, hok.2.2.2.2.2.2.2.2.1, hok.2.2.2.2.2.2.2.2.2.1, hok.2.2.2.2.2.2.2.2.2.2.1, hok.2.2.2.2.2.2.2.2.2.2.2⟩, fun w => ?_⟩
                            have hz : (w.alloc (.cells r.cells 24)).heap.size = w.heap.size + 1 := by simp
                            have V0 : Whole ((w.alloc (.cells r.cells 24)).alloc (.cells #[.int .u8 0, .int .u64 0, .int .u64 0, .int .u64 0, .int .u64 0, .int .u64 0, .int .u64 0, .int .u64 0, .int .u64 0, .int .u64 0, .string ⟨#[]⟩, .string ⟨#[]⟩] 24)) w.heap.size 24 r.cells := (Whole.new w 24 r.cells).alloc (.cells #[.int .u8 0, .int .u64 0, .int .u64 0, .int .u64 0, .int .u64 0, .int .u64 0, .int .u64 0, .int .u64 0, .int .u64 0, .int .u64 0, .string ⟨#[]⟩, .string ⟨#[]⟩] 24)
                            have V1 : Whole ((w.alloc (.cells r.cells 24)).alloc (.cells #[.int .u8 0, .int .u64 0, .int .u64 0, .int .u64 0, .int .u64 0, .int .u64 0, .int .u64 0, .int .u64 0, .int .u64 0, .int .u64 0, .string ⟨#[]⟩, .string ⟨#[]⟩] 24)) (w.heap.size + 1) 24 #[.int .u8 0, .int .u64 0, .int .u64 0, .int .u64 0, .int .u64 0, .int .u64 0, .int .u64 0, .int .u64 0, .int .u64 0, .int .u64 0, .string ⟨#[]⟩, .string ⟨#[]⟩] := by rw [← hz]; exact Whole.new _ _ _
                            have HB := (belowK w (.cells r.cells 24)).trans ((belowK (w.alloc (.cells r.cells 24)) (.cells #[.int .u8 0, .int .u64 0, .int .u64 0, .int .u64 0, .int .u64 0, .int .u64 0, .int .u64 0, .int .u64 0, .int .u64 0, .int .u64 0, .string ⟨#[]⟩, .string ⟨#[]⟩] 24)).mono (by rw [hz]; omega))
                            have fz := V0.frozen 0
                            have cv : ((w.alloc (.cells r.cells 24)).alloc (.cells #[.int .u8 0, .int .u64 0, .int .u64 0, .int .u64 0, .int .u64 0, .int .u64 0, .int .u64 0, .int .u64 0, .int .u64 0, .int .u64 0, .string ⟨#[]⟩, .string ⟨#[]⟩] 24)).cell? ⟨w.heap.size, 0, none⟩ = some (.int .u8 (r.k : Nat)) := V0.cell 0
                            have hz2 : (w.alloc (.cells (r.cells.setIfInBounds 0 (.int .u8 (v : Nat))) 24)).heap.size = w.heap.size + 1 := by simp
                            have K1 := Lib.hid (show Whole ((w.alloc (.cells (r.cells.setIfInBounds 0 (.int .u8 (v : Nat))) 24)).alloc (.cells #[.int .u8 0, .int .u64 0, .int .u64 0, .int .u64 0, .int .u64 0, .int .u64 0, .int .u64 0, .int .u64 0, .int .u64 0, .int .u64 0, .string ⟨#[]⟩, .string ⟨#[]⟩] 24)) w.heap.size 24 (r.cells.setIfInBounds 0 (.int .u8 (v : Nat))) from (Whole.new w 24 (r.cells.setIfInBounds 0 (.int .u8 (v : Nat)))).alloc (.cells #[.int .u8 0, .int .u64 0, .int .u64 0, .int .u64 0, .int .u64 0, .int .u64 0, .int .u64 0, .int .u64 0, .int .u64 0, .int .u64 0, .string ⟨#[]⟩, .string ⟨#[]⟩] 24))
                            have VF := Lib.hid (show Whole ((w.alloc (.cells (r.cells.setIfInBounds 0 (.int .u8 (v : Nat))) 24)).alloc (.cells #[.int .u8 0, .int .u64 0, .int .u64 0, .int .u64 0, .int .u64 0, .int .u64 0, .int .u64 0, .int .u64 0, .int .u64 0, .int .u64 0, .string ⟨#[]⟩, .string ⟨#[]⟩] 24)) (w.heap.size + 1) 24 #[.int .u8 0, .int .u64 0, .int .u64 0, .int .u64 0, .int .u64 0, .int .u64 0, .int .u64 0, .int .u64 0, .int .u64 0, .int .u64 0, .string ⟨#[]⟩, .string ⟨#[]⟩] by rw [← hz2]; exact Whole.new _ _ _)
                            have BF := Lib.hid ((belowK w (.cells (r.cells.setIfInBounds 0 (.int .u8 (v : Nat))) 24)).trans ((belowK (w.alloc (.cells (r.cells.setIfInBounds 0 (.int .u8 (v : Nat))) 24)) (.cells #[.int .u8 0, .int .u64 0, .int .u64 0, .int .u64 0, .int .u64 0, .int .u64 0, .int .u64 0, .int .u64 0, .int .u64 0, .int .u64 0, .string ⟨#[]⟩, .string ⟨#[]⟩] 24)).mono (by rw [hz2]; omega)))
                            clear hz2
                            clear V0 V1 HB hz hok hv
                            obtain ⟨x, hx⟩ : ∃ x : Rc, (⟨v, r.proc, r.inc, r.seq, r.epoch, r.until_, r.version, r.clock, r.size, r.crc, r.name, r.to⟩ : Rc) = x := ⟨_, rfl⟩
                            have HX := Lib.hid hx
                            rw [hx]
                            clear hx
                            go_enter Try.func22, Try.ntmps22
                            go_wp2_with (first
                              | (refine wpList_load_row rfl 24 (.tmp 2) rfl w.heap.size rfl 24 x.cells (0, 0) _ ?_ Try.underlying24 rfl (rec_size _) ?_; · rw [← HX.out]; exact K1.out)
                              | (refine wpList_store_row rfl 24 (.tmp 4) (.tmp 77) rfl (w.heap.size + 1) x.cells rfl rfl 24 _ VF.out (rec_size _) rfl (rec_cells _) ?_))
                            have k9 := VF.out.row x.cells
                            have b9 := Below.setRow BF.out (g := w.heap.size + 1) (by omega) x.cells
                            generalize World.setRow ((w.alloc (.cells (r.cells.setIfInBounds 0 (.int .u8 (v : Nat))) 24)).alloc (.cells #[.int .u8 0, .int .u64 0, .int .u64 0, .int .u64 0, .int .u64 0, .int .u64 0, .int .u64 0, .int .u64 0, .int .u64 0, .int .u64 0, .string ⟨#[]⟩, .string ⟨#[]⟩] 24)) (w.heap.size + 1) x.cells = W9 at k9 b9 ⊢
                            have r0 : W9.cell? ⟨w.heap.size + 1, 0, none⟩ = some (.int .u8 (x.k : Nat)) := k9.cell 0
                            have r1 : W9.cell? ⟨w.heap.size + 1, 1, none⟩ = some (.int .u64 (x.proc : Nat)) := k9.cell 1
                            have r2 : W9.cell? ⟨w.heap.size + 1, 2, none⟩ = some (.int .u64 (x.inc : Nat)) := k9.cell 2
                            have r3 : W9.cell? ⟨w.heap.size + 1, 3, none⟩ = some (.int .u64 (x.seq : Nat)) := k9.cell 3
                            have r4 : W9.cell? ⟨w.heap.size + 1, 4, none⟩ = some (.int .u64 (x.epoch : Nat)) := k9.cell 4
                            have r5 : W9.cell? ⟨w.heap.size + 1, 5, none⟩ = some (.int .u64 (x.until_ : Nat)) := k9.cell 5
                            have r6 : W9.cell? ⟨w.heap.size + 1, 6, none⟩ = some (.int .u64 (x.version : Nat)) := k9.cell 6
                            have r7 : W9.cell? ⟨w.heap.size + 1, 7, none⟩ = some (.int .u64 (x.clock : Nat)) := k9.cell 7
                            have r8 : W9.cell? ⟨w.heap.size + 1, 8, none⟩ = some (.int .u64 (x.size : Nat)) := k9.cell 8
                            have r9 : W9.cell? ⟨w.heap.size + 1, 9, none⟩ = some (.int .u64 (x.crc : Nat)) := k9.cell 9
                            have r10 : W9.cell? ⟨w.heap.size + 1, 10, none⟩ = some (.string x.name) := k9.cell 10
                            have r11 : W9.cell? ⟨w.heap.size + 1, 11, none⟩ = some (.string x.to) := k9.cell 11
                            clear k9
                            have B9 := Lib.hid b9
                            clear b9
                            simp [bodyPost, results, Try.results22, go_sem, Rc.cells, r0, r1, r2, r3, r4, r5, r6, r7, r8, r9, r10, r11]
                            exact B9.out
                          · have b12 : ((i : Int) == 12) = false := by simp; omega
                            have hv : 18446744073709551615 < 18446744073709551616 := by decide
                            refine ⟨(⟨r.k, r.proc, r.inc, 18446744073709551615, r.epoch, r.until_, r.version, r.clock, r.size, r.crc, r.name, r.to⟩ : Rc), ⟨hok.1, hok.2.1, hok.2.2.1, hv, hok.2.2.2.2.1, hok.2.2.2.2.2.1, hok.2.2.2.2.2.2.1, hok.2.2.2.2.2.2.2.1, hok.2.2.2.2.2.2.2.2.1, hok.2.2.2.2.2.2.2.2.2.1, hok.2.2.2.2.2.2.2.2.2.2.1, hok.2.2.2.2.2.2.2.2.2.2.2⟩, fun w => ?_⟩
                            have hz : (w.alloc (.cells r.cells 24)).heap.size = w.heap.size + 1 := by simp
                            have V0 : Whole ((w.alloc (.cells r.cells 24)).alloc (.cells #[.int .u8 0, .int .u64 0, .int .u64 0, .int .u64 0, .int .u64 0, .int .u64 0, .int .u64 0, .int .u64 0, .int .u64 0, .int .u64 0, .string ⟨#[]⟩, .string ⟨#[]⟩] 24)) w.heap.size 24 r.cells := (Whole.new w 24 r.cells).alloc (.cells #[.int .u8 0, .int .u64 0, .int .u64 0, .int .u64 0, .int .u64 0, .int .u64 0, .int .u64 0, .int .u64 0, .int .u64 0, .int .u64 0, .string ⟨#[]⟩, .string ⟨#[]⟩] 24)
                            have V1 : Whole ((w.alloc (.cells r.cells 24)).alloc (.cells #[.int .u8 0, .int .u64 0, .int .u64 0, .int .u64 0, .int .u64 0, .int .u64 0, .int .u64 0, .int .u64 0, .int .u64 0, .int .u64 0, .string ⟨#[]⟩, .string ⟨#[]⟩] 24)) (w.heap.size + 1) 24 #[.int .u8 0, .int .u64 0, .int .u64 0, .int .u64 0, .int .u64 0, .int .u64 0, .int .u64 0, .int .u64 0, .int .u64 0, .int .u64 0, .string ⟨#[]⟩, .string ⟨#[]⟩] := by rw [← hz]; exact Whole.new _ _ _
                            have HB := (belowK w (.cells r.cells 24)).trans ((belowK (w.alloc (.cells r.cells 24)) (.cells #[.int .u8 0, .int .u64 0, .int .u64 0, .int .u64 0, .int .u64 0, .int .u64 0, .int .u64 0, .int .u64 0, .int .u64 0, .int .u64 0, .string ⟨#[]⟩, .string ⟨#[]⟩] 24)).mono (by rw [hz]; omega))
                            have fz := V0.frozen 3
                            have cv : ((w.alloc (.cells r.cells 24)).alloc (.cells #[.int .u8 0, .int .u64 0, .int .u64 0, .int .u64 0, .int .u64 0, .int .u64 0, .int .u64 0, .int .u64 0, .int .u64 0, .int .u64 0, .string ⟨#[]⟩, .string ⟨#[]⟩] 24)).cell? ⟨w.heap.size, 3, none⟩ = some (.int .u64 (r.seq : Nat)) := V0.cell 3
                            have hz2 : (w.alloc (.cells (r.cells.setIfInBounds 3 (.int .u64 18446744073709551615)) 24)).heap.size = w.heap.size + 1 := by simp
                            have K1 := Lib.hid (show Whole ((w.alloc (.cells (r.cells.setIfInBounds 3 (.int .u64 18446744073709551615)) 24)).alloc (.cells #[.int .u8 0, .int .u64 0, .int .u64 0, .int .u64 0, .int .u64 0, .int .u64 0, .int .u64 0, .int .u64 0, .int .u64 0, .int .u64 0, .string ⟨#[]⟩, .string ⟨#[]⟩] 24)) w.heap.size 24 (r.cells.setIfInBounds 3 (.int .u64 18446744073709551615)) from (Whole.new w 24 (r.cells.setIfInBounds 3 (.int .u64 18446744073709551615))).alloc (.cells #[.int .u8 0, .int .u64 0, .int .u64 0, .int .u64 0, .int .u64 0, .int .u64 0, .int .u64 0, .int .u64 0, .int .u64 0, .int .u64 0, .string ⟨#[]⟩, .string ⟨#[]⟩] 24))
                            have VF := Lib.hid (show Whole ((w.alloc (.cells (r.cells.setIfInBounds 3 (.int .u64 18446744073709551615)) 24)).alloc (.cells #[.int .u8 0, .int .u64 0, .int .u64 0, .int .u64 0, .int .u64 0, .int .u64 0, .int .u64 0, .int .u64 0, .int .u64 0, .int .u64 0, .string ⟨#[]⟩, .string ⟨#[]⟩] 24)) (w.heap.size + 1) 24 #[.int .u8 0, .int .u64 0, .int .u64 0, .int .u64 0, .int .u64 0, .int .u64 0, .int .u64 0, .int .u64 0, .int .u64 0, .int .u64 0, .string ⟨#[]⟩, .string ⟨#[]⟩] by rw [← hz2]; exact Whole.new _ _ _)
                            have BF := Lib.hid ((belowK w (.cells (r.cells.setIfInBounds 3 (.int .u64 18446744073709551615)) 24)).trans ((belowK (w.alloc (.cells (r.cells.setIfInBounds 3 (.int .u64 18446744073709551615)) 24)) (.cells #[.int .u8 0, .int .u64 0, .int .u64 0, .int .u64 0, .int .u64 0, .int .u64 0, .int .u64 0, .int .u64 0, .int .u64 0, .int .u64 0, .string ⟨#[]⟩, .string ⟨#[]⟩] 24)).mono (by rw [hz2]; omega)))
                            clear hz2
                            clear V0 V1 HB hz hok hv
                            obtain ⟨x, hx⟩ : ∃ x : Rc, (⟨r.k, r.proc, r.inc, 18446744073709551615, r.epoch, r.until_, r.version, r.clock, r.size, r.crc, r.name, r.to⟩ : Rc) = x := ⟨_, rfl⟩
                            have HX := Lib.hid hx
                            rw [hx]
                            clear hx
                            go_enter Try.func22, Try.ntmps22
                            go_wp2_with (first
                              | (refine wpList_load_row rfl 24 (.tmp 2) rfl w.heap.size rfl 24 x.cells (0, 0) _ ?_ Try.underlying24 rfl (rec_size _) ?_; · rw [← HX.out]; exact K1.out)
                              | (refine wpList_store_row rfl 24 (.tmp 4) (.tmp 77) rfl (w.heap.size + 1) x.cells rfl rfl 24 _ VF.out (rec_size _) rfl (rec_cells _) ?_))
                            have k9 := VF.out.row x.cells
                            have b9 := Below.setRow BF.out (g := w.heap.size + 1) (by omega) x.cells
                            generalize World.setRow ((w.alloc (.cells (r.cells.setIfInBounds 3 (.int .u64 18446744073709551615)) 24)).alloc (.cells #[.int .u8 0, .int .u64 0, .int .u64 0, .int .u64 0, .int .u64 0, .int .u64 0, .int .u64 0, .int .u64 0, .int .u64 0, .int .u64 0, .string ⟨#[]⟩, .string ⟨#[]⟩] 24)) (w.heap.size + 1) x.cells = W9 at k9 b9 ⊢
                            have r0 : W9.cell? ⟨w.heap.size + 1, 0, none⟩ = some (.int .u8 (x.k : Nat)) := k9.cell 0
                            have r1 : W9.cell? ⟨w.heap.size + 1, 1, none⟩ = some (.int .u64 (x.proc : Nat)) := k9.cell 1
                            have r2 : W9.cell? ⟨w.heap.size + 1, 2, none⟩ = some (.int .u64 (x.inc : Nat)) := k9.cell 2
                            have r3 : W9.cell? ⟨w.heap.size + 1, 3, none⟩ = some (.int .u64 (x.seq : Nat)) := k9.cell 3
                            have r4 : W9.cell? ⟨w.heap.size + 1, 4, none⟩ = some (.int .u64 (x.epoch : Nat)) := k9.cell 4
                            have r5 : W9.cell? ⟨w.heap.size + 1, 5, none⟩ = some (.int .u64 (x.until_ : Nat)) := k9.cell 5
                            have r6 : W9.cell? ⟨w.heap.size + 1, 6, none⟩ = some (.int .u64 (x.version : Nat)) := k9.cell 6
                            have r7 : W9.cell? ⟨w.heap.size + 1, 7, none⟩ = some (.int .u64 (x.clock : Nat)) := k9.cell 7
                            have r8 : W9.cell? ⟨w.heap.size + 1, 8, none⟩ = some (.int .u64 (x.size : Nat)) := k9.cell 8
                            have r9 : W9.cell? ⟨w.heap.size + 1, 9, none⟩ = some (.int .u64 (x.crc : Nat)) := k9.cell 9
                            have r10 : W9.cell? ⟨w.heap.size + 1, 10, none⟩ = some (.string x.name) := k9.cell 10
                            have r11 : W9.cell? ⟨w.heap.size + 1, 11, none⟩ = some (.string x.to) := k9.cell 11
                            clear k9
                            have B9 := Lib.hid b9
                            clear b9
                            simp [bodyPost, results, Try.results22, go_sem, Rc.cells, r0, r1, r2, r3, r4, r5, r6, r7, r8, r9, r10, r11]
                            exact B9.out
end Go.Proofs.Ytmobgamlednlhaa
