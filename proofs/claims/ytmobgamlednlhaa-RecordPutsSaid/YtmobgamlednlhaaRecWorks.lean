/-
  Records: the chapter's examples.
-/
import Derived.Test.YtmobgamlednlhaaRecPuts
import Derived.Test.YtmobgamlednlhaaRecLeaf
namespace Go.Proofs.Ytmobgamlednlhaa
open Go.RowKit
attribute [local go_sem] match_undef
namespace Rc
def ex1 : Rc := ⟨3, 1, 2, 3, 300, 0, 0, 0, 0, 0, ⟨#[]⟩, ⟨#[]⟩⟩
def ex2 : Rc := ⟨9, 0, 0, 1, 0, 0, 0, 0, 0, 0, ⟨#[97, 98]⟩, ⟨#[]⟩⟩
def ex1B : List UInt8 := [3, 5, 1, 2, 3, 172, 2, 56, 30, 219, 223]
theorem ex1_right : ex1.right = true := by rfl
theorem ex2_right : ex2.right = true := by rfl
theorem ex1_ok : ex1.ok := by
  unfold ex1 ok maxLen
  and_intros <;> first | exact Nat.zero_le _ | decide
theorem ex2_ok : ex2.ok := by
  unfold ex2 ok maxLen
  and_intros <;> first | exact Nat.zero_le _ | decide
theorem ex1_E : ex1.putE = 0 := by unfold putE; rw [ex1_right]; rfl
theorem ex2_E : ex2.putE = 0 := by unfold putE; rw [ex2_right]; rfl
theorem ex1_len : ex1.putB.length = 11 ∧ ex1.putB.take 7 = [3, 5, 1, 2, 3, 172, 2] := by
  unfold putB; rw [ex1_right, if_pos rfl]
  decide +kernel
theorem ex2_len : ex2.putB.length = 12 ∧ ex2.putB.take 8 = [9, 6, 0, 0, 1, 2, 97, 98] := by
  unfold putB; rw [ex2_right, if_pos rfl]
  decide +kernel
end Rc
set_option maxRecDepth 100000 in
set_option maxHeartbeats 8000000 in
theorem rworks_any (w : World) : Calls Try.prog 9 #[] w fun en w' => en = .returned (.bool true) ∧ Below w.heap.size w w' := by
  have hp1 := put_rec_any w Rc.ex1 Rc.ex1_ok
  have hv1 : Rc.ex1.val = .agg #[.int .u8 3, .int .u64 1, .int .u64 2, .int .u64 3, .int .u64 300, .int .u64 0, .int .u64 0, .int .u64 0, .int .u64 0, .int .u64 0, .string ⟨#[]⟩, .string ⟨#[]⟩] := rfl
  have hv2 : Rc.ex2.val = .agg #[.int .u8 9, .int .u64 0, .int .u64 0, .int .u64 1, .int .u64 0, .int .u64 0, .int .u64 0, .int .u64 0, .int .u64 0, .int .u64 0, .string ⟨#[97, 98]⟩, .string ⟨#[]⟩] := rfl
  have hp2 := fun w => put_rec_any w Rc.ex2 Rc.ex2_ok
  unfold PutP at hp1 hp2
  obtain ⟨l1, hl1⟩ : ∃ l, Rc.ex1.putB = l := ⟨_, rfl⟩
  obtain ⟨l2, hl2⟩ : ∃ l, Rc.ex2.putB = l := ⟨_, rfl⟩
  have e1 := Rc.ex1_len
  have e2 := Rc.ex2_len
  rw [hl1] at e1 hp1
  rw [hl2] at e2 hp2
  rw [hv1, e1.1, Rc.ex1_E] at hp1
  rw [hv2, e2.1, Rc.ex2_E] at hp2
  have HP1 := Lib.hid hp1
  have HP2 := Lib.hid hp2
  have E1 := Lib.hid e1
  have E2 := Lib.hid e2
  clear hp1 hp2 e1 e2 hl1 hl2 hv1 hv2
  go_enter Try.func9, Try.ntmps9
  go_wp2_with fail
  refine HP1.out.mono ?_
  clear HP1
  rintro en w1 ⟨D1, c1, rfl, ho1, hb1⟩
  have HO1 := Lib.hid ho1
  have HB1 := Lib.hid hb1
  have hc1 := own_cap ho1
  have HC1 := Lib.hid hc1
  clear ho1 hb1 hc1
  go_wp2_with fail
  refine (HP2.out w1).mono ?_
  clear HP2
  rintro en w2 ⟨D2, c2, rfl, ho2, hb2⟩
  have HO2 := Lib.hid ho2
  have HO3 := Lib.hid (own_ext HO1.out hb2)
  have HB2 := Lib.hid (HB1.out.trans (hb2.mono HB1.out.size))
  have hc2 := own_cap ho2
  have HC2 := Lib.hid hc2
  have s7 : (7 : Int) ≤ (c1 : Int) := by have := HC1.out.1; omega
  have s8 : (8 : Int) ≤ (c2 : Int) := by have := hc2.1; omega
  clear ho2 hb2 HO1 HB1 hc2
  go_wp2_with fail
  have hr1 := (Rd.of_own HO3.out).front (j := 7) (by omega)
  rw [E1.out.2] at hr1
  refine (same_any _ D1 7 c1 _ (some ⟨w2.heap.size, 0, none⟩) 7 7 [3, 5, 1, 2, 3, 172, 2] w2.heap.size (w2.heap.size + 1) (by simp) (by simp) (hr1.alloc (Nat.le_refl _) _) (Rd.newb w2 _ _ _ 7 rfl rfl) (by omega) (by omega) true (by simp)).mono ?_
  clear hr1
  rintro en w3 ⟨rfl, hb3⟩
  have HO4 := Lib.hid (own_ext (HO2.out.alloc (.cells #[.int .u8 3, .int .u8 5, .int .u8 1, .int .u8 2, .int .u8 3, .int .u8 172, .int .u8 2] 5)) hb3)
  have HB3 := Lib.hid ((HB2.out.alloc HB2.out.size (.cells #[.int .u8 3, .int .u8 5, .int .u8 1, .int .u8 2, .int .u8 3, .int .u8 172, .int .u8 2] 5)).trans (hb3.mono (HB2.out.alloc HB2.out.size (.cells #[.int .u8 3, .int .u8 5, .int .u8 1, .int .u8 2, .int .u8 3, .int .u8 172, .int .u8 2] 5)).size))
  clear hb3 HO2 HO3 HB2
  go_wp2_with fail
  have hr2 := (Rd.of_own HO4.out).front (j := 8) (by omega)
  rw [E2.out.2] at hr2
  refine (same_any _ D2 8 c2 _ (some ⟨w3.heap.size, 0, none⟩) 8 8 [9, 6, 0, 0, 1, 2, 97, 98] w3.heap.size (w3.heap.size + 1) (by simp) (by simp) (hr2.alloc (Nat.le_refl _) _) (Rd.newb w3 _ _ _ 8 rfl rfl) (by omega) (by omega) true (by simp)).mono ?_
  clear hr2
  rintro en w4 ⟨rfl, hb4⟩
  have HB4 := Lib.hid ((HB3.out.alloc HB3.out.size (.cells #[.int .u8 9, .int .u8 6, .int .u8 0, .int .u8 0, .int .u8 1, .int .u8 2, .int .u8 97, .int .u8 98] 5)).trans (hb4.mono (HB3.out.alloc HB3.out.size (.cells #[.int .u8 9, .int .u8 6, .int .u8 0, .int .u8 0, .int .u8 1, .int .u8 2, .int .u8 97, .int .u8 98] 5)).size))
  clear hb4 HB3 HO4
  go_wp2_with fail
  refine (word_any w4 4 (by omega)).mono ?_
  rintro en w5 ⟨rfl, hb5⟩
  have HB5 := Lib.hid (HB4.out.trans (hb5.mono HB4.out.size))
  have hwd : (⟨(Rc.word 4).toArray⟩ : ByteArray) = ⟨#[99, 111, 109, 109, 105, 116]⟩ := rfl
  rw [hwd]
  clear hb5 hwd
  go_wp2_with fail
  go_ret
  exact ⟨rfl, HB5.out⟩
end Go.Proofs.Ytmobgamlednlhaa
