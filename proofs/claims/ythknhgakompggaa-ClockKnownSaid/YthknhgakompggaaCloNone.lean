/-
  The walks of ClockNone and ClockSums: they return true.
-/
import Derived.Test.YthknhgakompggaaCloWorks
namespace Go.Proofs.Ythknhgakompggaa
open Go.RowKit
attribute [local go_sem] match_undef
attribute [local irreducible] wpList

set_option maxRecDepth 100000 in
set_option maxHeartbeats 4000000 in
theorem clockNone_any (w : World) (z : Int) (y : Nat) :
    Calls Try.prog 11 #[.int .i64 z, .int .u64 (y : Nat)] w fun en w' => en = .returned (.bool true) ∧ Below w.heap.size w w' := by
  have hb : Below w.heap.size w w := Below.refl _ _
  go_enter Try.func11, Try.ntmps11
  go_wp2_with fail
  refine (nil_tick _ z y).mono ?_
  rintro en w1 ⟨rfl, hbn⟩
  replace hb := hb.trans (hbn.mono hb.size)
  clear hbn
  go_wp2_with fail
  refine (nil_read _ z).mono ?_
  rintro en w2 ⟨rfl, hbn⟩
  replace hb := hb.trans (hbn.mono hb.size)
  clear hbn
  go_wp2_with fail
  refine (nil_hands _).mono ?_
  rintro en w3 ⟨rfl, hbn⟩
  replace hb := hb.trans (hbn.mono hb.size)
  clear hbn
  go_wp2_with fail
  refine (nil_skew _).mono ?_
  rintro en w4 ⟨rfl, hbn⟩
  replace hb := hb.trans (hbn.mono hb.size)
  clear hbn
  go_wp2_with fail
  refine (nil_within _ y).mono ?_
  rintro en w5 ⟨rfl, hbn⟩
  replace hb := hb.trans (hbn.mono hb.size)
  clear hbn
  go_wp2_with fail
  refine (clo_works_any _).mono ?_
  rintro en w6 ⟨rfl, hbn⟩
  replace hb := hb.trans (hbn.mono hb.size)
  clear hbn
  go_wp2_with fail
  go_ret
  exact ⟨rfl, hb⟩

set_option maxRecDepth 100000 in
set_option maxHeartbeats 4000000 in
theorem clockSums_any (w : World) (A : Option Addr) (n cap : Nat) (l : List UInt64) (h : Rd w w.heap.size 1 A n (nums l)) (c u s : Nat) (hu : u < 18446744073709551616) (hs : s < 18446744073709551616) :
    Calls Try.prog 9 #[.slice A n cap, .int .u64 (c : Nat), .int .u64 (u : Nat), .int .u64 (s : Nat)] w fun en w' => en = .returned (.bool true) ∧ Below w.heap.size w w' := by
  have hb : Below w.heap.size w w := Below.refl _ _
  have H := Lib.hid h
  clear h
  by_cases hbig : 20 < n
  · go_enter Try.func9, Try.ntmps9
    go_wp2_with fail
    refine (clo_works_any _).mono ?_
    rintro en w1 ⟨rfl, hbn⟩
    replace hb := hb.trans (hbn.mono hb.size)
    clear hbn
    go_wp2_with fail
    go_ret
    exact ⟨rfl, hb⟩
  · obtain ⟨S, hS⟩ : ∃ S, sumTo l n = S := ⟨_, rfl⟩
    obtain ⟨p, hp⟩ : ∃ p, past c u s = p := ⟨_, rfl⟩
    have HS := Lib.hid hS
    have HP := Lib.hid hp
    clear hS hp
    go_enter Try.func9, Try.ntmps9
    go_wp2_with fail
    refine (clo_sum_any _ A n cap l w.heap.size hb.size (H.out.below hb) (by omega)).mono ?_
    rintro en w1 ⟨rfl, hbn⟩
    rw [HS.out]
    replace hb := hb.trans (hbn.mono hb.size)
    clear hbn
    go_wp2_with fail
    refine (cref_sum_any _ A n cap l w.heap.size hb.size (H.out.below hb) (by omega)).mono ?_
    rintro en w2 ⟨rfl, hbn⟩
    rw [HS.out]
    replace hb := hb.trans (hbn.mono hb.size)
    clear hbn
    go_wp2_with fail
    refine (clo_past_any _ c u s hu hs).mono ?_
    rintro en w3 ⟨rfl, hbn⟩
    rw [HP.out]
    replace hb := hb.trans (hbn.mono hb.size)
    clear hbn
    go_wp2_with fail
    refine (cref_past_any _ c u s hu).mono ?_
    rintro en w4 ⟨rfl, hbn⟩
    rw [HP.out]
    replace hb := hb.trans (hbn.mono hb.size)
    clear hbn
    go_wp2_with fail
    refine (clo_works_any _).mono ?_
    rintro en w5 ⟨rfl, hbn⟩
    replace hb := hb.trans (hbn.mono hb.size)
    clear hbn
    go_wp2_with fail
    go_ret
    exact ⟨rfl, hb⟩

end Go.Proofs.Ythknhgakompggaa
