/-
  Clocks: who is within a bound; clocks that are not there; the chapter's examples; the walks of ClockNone and ClockSums.
-/
import Derived.Test.YthknhgakompggaaCloSkew
namespace Go.Proofs.Ythknhgakompggaa
open Go.RowKit
attribute [local go_sem] match_undef
attribute [local irreducible] wpList

def skewOf (l : List UInt64) (n : Nat) : Nat := if n = 0 then 0 else skew l n
set_option maxRecDepth 100000 in
set_option maxHeartbeats 4000000 in
theorem clo_within_any (w : World) (base g : Nat) (D : Option Addr) (c n : Nat) (l : List UInt64) (h : ClkAt w base g D c n l) (hn : n ≤ 1000000) (s : Nat) :
    Calls Try.prog 43 #[.pointer (some ⟨g, 0, none⟩), .int .u64 (s : Nat)] w fun en w' => en = .returned (.bool (decide (skewOf l n ≤ s))) ∧ Below w.heap.size w w' := by
  have H := Lib.hid h
  clear h
  obtain ⟨S, hS⟩ : ∃ S, (if n = 0 then 0 else skew l n) = S := ⟨_, rfl⟩
  unfold skewOf
  rw [hS]
  have HS := Lib.hid hS
  clear hS
  go_enter Try.func43, Try.ntmps43
  go_wp2_with fail
  refine (clo_skew_any w base g D c n l H.out hn).mono ?_
  rintro en w1 ⟨rfl, hb⟩
  rw [HS.out]
  go_wp2_with fail
  go_ret
  exact ⟨by simp, hb⟩

set_option maxRecDepth 100000 in
set_option maxHeartbeats 4000000 in
theorem nil_has (w : World) (z : Int) :
    Calls Try.prog 54 #[.pointer none, .int .i64 z] w fun en w' => en = .returned (.bool false) ∧ Below w.heap.size w w' := by
  go_enter Try.func54, Try.ntmps54
  go_wp2_with fail
  go_ret
  exact ⟨by simp, Below.refl _ _⟩

set_option maxRecDepth 100000 in
set_option maxHeartbeats 4000000 in
theorem nil_tick (w : World) (z : Int) (y : Nat) :
    Calls Try.prog 36 #[.pointer none, .int .i64 z, .int .u64 (y : Nat)] w fun en w' => en = .returned (.int .i64 1) ∧ Below w.heap.size w w' := by
  go_enter Try.func36, Try.ntmps36
  go_wp2_with fail
  go_ret
  exact ⟨by simp, Below.refl _ _⟩

set_option maxRecDepth 100000 in
set_option maxHeartbeats 4000000 in
theorem nil_read (w : World) (z : Int) :
    Calls Try.prog 37 #[.pointer none, .int .i64 z] w fun en w' => en = .returned (.int .u64 0) ∧ Below w.heap.size w w' := by
  go_enter Try.func37, Try.ntmps37
  go_wp2_with fail
  refine (nil_has _ z).mono ?_
  rintro en w1 ⟨rfl, hb⟩
  go_wp2_with fail
  go_ret
  exact ⟨by simp, hb⟩

set_option maxRecDepth 100000 in
set_option maxHeartbeats 4000000 in
theorem nil_hands (w : World)  :
    Calls Try.prog 39 #[.pointer none] w fun en w' => en = .returned (.slice none 0 0) ∧ Below w.heap.size w w' := by
  go_enter Try.func39, Try.ntmps39
  go_wp2_with fail
  go_ret
  exact ⟨by simp, Below.refl _ _⟩

set_option maxRecDepth 100000 in
set_option maxHeartbeats 4000000 in
theorem nil_skew (w : World)  :
    Calls Try.prog 41 #[.pointer none] w fun en w' => en = .returned (.int .u64 0) ∧ Below w.heap.size w w' := by
  go_enter Try.func41, Try.ntmps41
  go_wp2_with fail
  refine (nil_hands _).mono ?_
  rintro en w1 ⟨rfl, hb⟩
  go_wp2_with fail
  go_ret
  exact ⟨by simp, hb.alloc hb.size _⟩

set_option maxRecDepth 100000 in
set_option maxHeartbeats 4000000 in
theorem nil_within (w : World) (s : Nat) :
    Calls Try.prog 43 #[.pointer none, .int .u64 (s : Nat)] w fun en w' => en = .returned (.bool true) ∧ Below w.heap.size w w' := by
  go_enter Try.func43, Try.ntmps43
  have e0 : decide ((0 : Int) ≤ (s : Int)) = true := by simp
  go_wp2_with fail
  refine (nil_skew _).mono ?_
  rintro en w1 ⟨rfl, hb⟩
  go_wp2_with fail
  go_ret
  exact ⟨by simp, hb⟩

set_option maxRecDepth 100000 in
set_option maxHeartbeats 4000000 in
theorem clo_works_any (w : World) : Calls Try.prog 34 #[] w fun en w' => en = .returned (.bool true) ∧ Below w.heap.size w w' := by
  have ey : (((18446744073709551615 : UInt64).toNat : Nat) : Int) = 18446744073709551615 := by decide
  have HY := Lib.hid ey
  clear ey
  go_enter Try.func34, Try.ntmps34
  go_wp2_with fail
  have hr : Rd (w.alloc (.cells #[Value.int .u64 5, .int .u64 9, .int .u64 7] 22)) (w.heap.size + 1) 1 (some ⟨w.heap.size, 0, none⟩) 3 (nums [5, 9, 7]) := Rd.of_heap (Whole.new w _ _) (Nat.lt_succ_self _) (n := 3) (Nat.le_refl _)
  have hb : Below w.heap.size w (w.alloc (.cells #[Value.int .u64 5, .int .u64 9, .int .u64 7] 22)) := below1 w _
  refine (clo_of_any _ _ 3 3 [5, 9, 7] _ (by simp) hr (by omega)).mono ?_
  rintro en w1 ⟨g, D, c, rfl, hk, hbn⟩
  have hz := hb.size
  replace hb := hb.trans (hbn.mono hb.size)
  clear hbn hr
  have HK := Lib.hid hk
  clear hk
  go_wp2_with fail
  refine (clo_skew_any w1 _ g D c 3 [5, 9, 7] HK.out (by omega)).mono ?_
  rintro en w2 ⟨rfl, hbn⟩
  rw [show (if 3 = 0 then 0 else skew [5, 9, 7] 3) = 4 from by decide]
  replace HK := Lib.hid (HK.out.below hbn)
  replace hb := hb.trans (hbn.mono hb.size)
  clear hbn
  go_wp2_with fail
  refine (clo_within_any w2 _ g D c 3 [5, 9, 7] HK.out (by omega) 3).mono ?_
  rintro en w3 ⟨rfl, hbn⟩
  rw [show decide (skewOf [5, 9, 7] 3 ≤ 3) = false from by decide]
  replace HK := Lib.hid (HK.out.below hbn)
  replace hb := hb.trans (hbn.mono hb.size)
  clear hbn
  go_wp2_with fail
  refine (clo_within_any w3 _ g D c 3 [5, 9, 7] HK.out (by omega) 4).mono ?_
  rintro en w4 ⟨rfl, hbn⟩
  rw [show decide (skewOf [5, 9, 7] 3 ≤ 4) = true from by decide]
  replace HK := Lib.hid (HK.out.below hbn)
  replace hb := hb.trans (hbn.mono hb.size)
  clear hbn
  go_wp2_with fail
  have ht := clo_tick_in w4 _ g D c 3 [5, 9, 7] HK.out 0 (by decide) 18446744073709551615
  rw [HY.out] at ht
  refine ht.mono ?_
  clear ht
  rintro en w5 ⟨rfl, hk, hbn⟩
  replace HK := Lib.hid hk
  replace hb := hb.trans (hbn.mono hz)
  clear hbn hk
  obtain ⟨l2, hl2⟩ : ∃ l2 : List UInt64, l2 = (List.set [5, 9, 7] 0 (UInt64.ofNat (till ([5, 9, 7] : List UInt64)[0].toNat (18446744073709551615 : UInt64).toNat))) := ⟨_, rfl⟩
  rw [← hl2] at HK
  have hl3 : ∃ h : 0 < l2.length, l2[0].toNat = 18446744073709551615 := by subst hl2; exact ⟨by decide, by decide⟩
  clear hl2
  obtain ⟨hl3, hl4⟩ := hl3
  have HL4 := Lib.hid hl4
  clear hl4
  go_wp2_with fail
  refine (clo_read_in w5 _ g D c 3 l2 HK.out 0 hl3).mono ?_
  rintro en w6 ⟨rfl, hbn⟩
  rw [HL4.out]
  replace HK := Lib.hid (HK.out.below hbn)
  replace hb := hb.trans (hbn.mono hb.size)
  clear hbn
  go_wp2_with fail
  refine (clo_tick_out w6 _ g D c 3 l2 HK.out 3 (by omega) 1).mono ?_
  rintro en w7 ⟨rfl, hbn⟩
  replace hb := hb.trans (hbn.mono hb.size)
  clear hbn
  go_wp2_with fail
  refine (clo_past_any w7 11 5 5 (by decide) (by decide)).mono ?_
  rintro en w8 ⟨rfl, hbn⟩
  rw [show past 11 5 5 = true from by decide]
  replace hb := hb.trans (hbn.mono hb.size)
  clear hbn
  go_wp2_with fail
  refine (clo_past_any w8 10 5 5 (by decide) (by decide)).mono ?_
  rintro en w9 ⟨rfl, hbn⟩
  rw [show past 10 5 5 = false from by decide]
  replace hb := hb.trans (hbn.mono hb.size)
  clear hbn
  go_wp2_with fail
  refine (clo_past_any w9 18446744073709551615 18446744073709551615 1 (by decide) (by decide)).mono ?_
  rintro en w10 ⟨rfl, hbn⟩
  rw [show past 18446744073709551615 18446744073709551615 1 = false from by decide]
  replace hb := hb.trans (hbn.mono hb.size)
  clear hbn
  go_wp2_with fail
  go_ret
  exact ⟨rfl, hb⟩

end Go.Proofs.Ythknhgakompggaa
