/-
  The chapter's examples of the check: works() returns true.
-/
import Derived.Test.YtfiabgpegdkldaaCrcRefs
import Derived.Lib.SlBytesConst
namespace Go.Proofs.Ytfiabgpegdkldaa
open Go.RowKit
def z32 : Array Value := Array.replicate 32 (.int .u8 0)
theorem make32 : ∀ w : World, (Instr.makeSlice 22 (.int .i64 32) (.int .i64 32)).run Try.prog w = .ok (.slice (some ⟨w.heap.size, 0, none⟩) 32 32) (w.alloc (.cells z32 5)) := fun _ => by kernel_rfl
def onesC (k : Nat) : Array Value := ((List.range 32).map fun j => Value.int .u8 (if j < k then 255 else 0)).toArray
theorem onesC_zero : z32 = onesC 0 := by kernel_rfl
theorem onesC_get (k j : Nat) (hj : j < 32) : (onesC k)[j]? = some (.int .u8 (if j < k then 255 else 0)) := by
  unfold onesC
  simp [hj]
theorem onesC_put (k : Nat) : (onesC k).setIfInBounds k (.int .u8 255) = onesC (k + 1) := by
  apply Array.ext_getElem?
  intro j
  by_cases hj : j < 32
  · rw [Array.getElem?_setIfInBounds, onesC_get _ _ hj, onesC_get _ _ hj]
    by_cases e : k = j
    · subst e
      have : k < (onesC k).size := by unfold onesC; simp; exact hj
      simp [this]
    · have h1 : (j < k + 1) = (j < k) := by simp; omega
      simp [e, h1]
  · have h1 : ∀ m, (onesC m)[j]? = none := fun m => by unfold onesC; simp; omega
    rw [Array.getElem?_setIfInBounds, h1, h1]
    have : ¬ k < (onesC k).size ∨ k ≠ j := by unfold onesC; simp; omega
    split
    · rename_i e
      subst e
      rcases this with h | h
      · simp [h]
      · exact absurd rfl h
    · rfl
theorem ones_byts : (onesC 32).toList.take 32 = byts (List.replicate 32 255) := by kernel_rfl
theorem e9 : Crc.update 0 [49, 50, 51, 52, 53, 54, 55, 56, 57] = 3808858755 := by decide +kernel
theorem e0 : Crc.update 0 (List.replicate 32 0) = 2324772522 := by decide +kernel
theorem e255 : Crc.update 0 (List.replicate 32 255) = 1655221059 := by decide +kernel
theorem et1 : Crc.tabv 1 = 4067132163 := by decide +kernel
theorem et128 : Crc.tabv 128 = 2197175160 := by decide +kernel
set_option maxHeartbeats 400000 in
set_option maxRecDepth 100000 in
theorem crcWorks_any (w : World) : Calls Try.prog 12 #[] w fun e w' => e = .returned (.bool true) ∧ Below w.heap.size w w' := by
  have hmk := make32
  have kc := fun (w : World) (C : Array Value) (n c : Nat) => Lib.run_convert_bytes_const (P := Try.prog) w 22 5 C n c Try.underlying22 Try.underlying5
  have hs : (Try.prog.info? 35).map (·.size) = some (tcells 256).size := size35
  have ho := zcells_size
  go_enter Try.func12, Try.ntmps12
  go_wp2_with fail
  go_loopw [2] (fun i wr => ∃ k : Nat, k ≤ 32 ∧ i = .int .i64 k ∧ Whole wr w.heap.size 5 (onesC k) ∧ Below w.heap.size w wr) (fun i _ => 32 - (intOf i).toNat)
  case atStart =>
    refine ⟨0, by omega, rfl, ?_, (Below.refl _ _).alloc (Nat.le_refl _) _⟩
    rw [← onesC_zero]
    exact Whole.new w _ _
  case round =>
    obtain ⟨k, hk, rfl, ht, hb⟩ := hrel
    by_cases hlt : k < 32
    · have h1 : wr.cell? ⟨w.heap.size, k, none⟩ = some (.int .u8 (if k < k then 255 else 0)) := (ht.cell k).trans (onesC_get k k hlt)
      have h2 := ht.frozen k
      have h3 := Whole.put_ ht k (.int .u8 255)
      rw [onesC_put] at h3
      have h5 : Below w.heap.size w (wr.setCell ⟨w.heap.size, k, none⟩ (.int .u8 255)) := hb.setCell (by simp) _
      clear ht hb hs ho
      go_wp2_with fail
      go_roundw
      case rel => exact ⟨k + 1, by omega, by go_num, h3, h5⟩
      case measure => simp [intOf]; omega
    · obtain rfl : k = 32 := by omega
      go_wp2_with fail
      refine (table_any wr).mono ?_
      rintro e w1 ⟨rfl, hb1⟩
      have hz1 : w.heap.size < wr.heap.size := ht.lt
      have ht1 : Whole w1 w.heap.size 5 (onesC 32) := ht.below hb1 hz1
      obtain ⟨hb2, hT, h2⟩ := laid_table (B := wr.heap.size) hb1 (Nat.le_refl _) (Rd.of_heap ht (show w.heap.size < wr.heap.size by omega) (n := 32) (by simp [onesC]))
      have hz2 : w1.heap.size < ((w1.alloc (.cells zcells 35)).setRow w1.heap.size (tcells 256)).heap.size := by simp
      have HT := Lib.hid hT
      have H2 := Lib.hid h2
      clear hT h2 ht ht1
      go_wp2_with (first | (refine wpList_alloc_row rfl 35 rfl zcells zero35 ?_) | (refine wpList_store_row rfl 35 (.tmp 3) (.tmp 12) rfl w1.heap.size (tcells 256) rfl rfl 35 zcells (heap_alloc_new w1 _) hs ho (tcells_one 256) ?_; generalize (w1.alloc (.cells zcells 35)).setRow w1.heap.size (tcells 256) = w2 at *))
      have hb2' : Below w.heap.size w w2 := hb.trans (hb2.mono (by omega))
      refine (crcSum_one _ _ 9 9 [49, 50, 51, 52, 53, 54, 55, 56, 57] (w2.heap.size + 1) (by simp) (Rd.of_heap (heap_alloc_new w2 _) (by omega) (by simp)) (by omega) (by unfold maxLen; omega) 3808858755 e9 _ (by simp)).mono ?_
      rintro e w3 ⟨rfl, hb3⟩
      have hb4 : Below w2.heap.size w2 w3 := ((Below.refl w2.heap.size w2).alloc (Nat.le_refl _) _).trans (hb3.mono (by simp))
      clear hb3
      go_wp2_with fail
      refine (crcSum_one _ _ 32 32 (List.replicate 32 0) (w3.heap.size + 1) (by simp) (Rd.of_heap (heap_alloc_new w3 _) (by omega) (by simp [z32])) (by omega) (by unfold maxLen; omega) 2324772522 e0 _ (by simp)).mono ?_
      rintro e w5 ⟨rfl, hb5⟩
      have hb6 : Below w2.heap.size w2 w5 := hb4.trans ((((Below.refl w3.heap.size w3).alloc (Nat.le_refl _) _).trans (hb5.mono (by simp))).mono hb4.size)
      clear hb5 hb4
      go_wp2_with fail
      have hr : Rd w5 wr.heap.size 1 (some ⟨w.heap.size, 0, none⟩) 32 (byts (List.replicate 32 255)) := by
        have := H2.out.below (hb6.mono (by have := hb2.size; omega))
        rw [ones_byts] at this
        exact this
      have hs5 := hb6.size
      have hs2 := hb2.size
      refine (crcSum_one w5 (some ⟨w.heap.size, 0, none⟩) 32 32 (List.replicate 32 255) wr.heap.size (by omega) hr (by omega) (by unfold maxLen; omega) 1655221059 e255 _ (by simp)).mono ?_
      rintro e w7 ⟨rfl, hb7⟩
      have hb8 : Below w2.heap.size w2 w7 := hb6.trans (hb7.mono hs5)
      have h1 : w7.cell? ⟨w1.heap.size, 1, none⟩ = some (.int .u32 4067132163) := by
        rw [hb8.cell (show w1.heap.size < w2.heap.size by omega), HT.out 1 (by omega), et1]; rfl
      have h128 : w7.cell? ⟨w1.heap.size, 128, none⟩ = some (.int .u32 2197175160) := by
        rw [hb8.cell (show w1.heap.size < w2.heap.size by omega), HT.out 128 (by omega), et128]; rfl
      clear hb7 hb6 hr hs5 hs2
      go_wp2_with fail
      refine (crcSum_none _).mono ?_
      rintro e w9 ⟨rfl, hb9⟩
      go_wp2_with fail
      go_ret
      exact ⟨rfl, hb2'.trans ((hb8.trans (hb9.mono hb8.size)).mono (by have := hb2'.size; omega))⟩
end Go.Proofs.Ytfiabgpegdkldaa
