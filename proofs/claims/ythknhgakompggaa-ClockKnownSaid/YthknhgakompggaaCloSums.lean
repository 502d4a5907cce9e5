/-
  Clocks: numbers together, and what is past, as the program and the document reckon them.
-/
import Derived.Test.YthknhgakompggaaLeaFuns
import Derived.Test.YthknhgakompggaaCloPlain
import Derived.Test.YthknhgakompggaaUndef
namespace Go.Proofs.Ythknhgakompggaa
open Go.RowKit
attribute [local go_sem] match_undef
attribute [local irreducible] wpList

set_option maxHeartbeats 400000 in
theorem cref_add_any (w : World) (a b : Nat) (ha : a < 18446744073709551616) (hb : b < 18446744073709551616) :
    Calls Try.prog 38 #[.int .u64 (a : Nat), .int .u64 (b : Nat)] w fun en w' => en = .returned (.int .u64 (till a b : Nat)) ∧ Below w.heap.size w w' := by
  have e2 : IntKind.u64.wrap (18446744073709551615 - (a : Int)) = 18446744073709551615 - (a : Int) := by rw [IntKind.wrap_u64]; omega
  by_cases h : a + b < 18446744073709551616
  · have e1 : till a b = a + b := by unfold till; rw [if_pos h]
    rw [e1]
    clear e1
    have e3 : decide (18446744073709551615 - (a : Int) < (b : Int)) = false := by simp; omega
    have e4 : IntKind.u64.wrap ((a : Int) + (b : Int)) = (a : Int) + (b : Int) := by rw [IntKind.wrap_u64]; omega
    go_enter Try.func38, Try.ntmps38
    go_wp2_with fail
    go_ret
    exact ⟨by simp, Below.refl _ _⟩
  · have e1 : till a b = 18446744073709551615 := by unfold till; rw [if_neg h]
    rw [e1]
    clear e1
    have e3 : decide (18446744073709551615 - (a : Int) < (b : Int)) = true := by simp; omega
    go_enter Try.func38, Try.ntmps38
    go_wp2_with fail
    go_ret
    exact ⟨by simp, Below.refl _ _⟩

set_option maxHeartbeats 400000 in
theorem clo_past_any (w : World) (c u s : Nat) (hu : u < 18446744073709551616) (hs : s < 18446744073709551616) :
    Calls Try.prog 46 #[.int .u64 (c : Nat), .int .u64 (u : Nat), .int .u64 (s : Nat)] w fun en w' => en = .returned (.bool (past c u s)) ∧ Below w.heap.size w w' := by
  unfold past
  by_cases h : u + s < 18446744073709551616
  · rw [decide_eq_true h, Bool.true_and, show decide (u + s < c) = decide ((u : Int) + (s : Int) < (c : Int)) from decide_eq_decide.2 (by omega)]
    go_enter Try.func46, Try.ntmps46
    go_wp2_with (simp only [add64_fit _ _ _ h])
    go_ret
    exact ⟨by simp, Below.refl _ _⟩
  · rw [decide_eq_false h, Bool.false_and]
    go_enter Try.func46, Try.ntmps46
    go_wp2_with (simp only [add64_over _ _ _ hu hs h])
    go_ret
    exact ⟨by simp, Below.refl _ _⟩

set_option maxHeartbeats 400000 in
theorem cref_past_any (w : World) (c u s : Nat) (hu : u < 18446744073709551616) :
    Calls Try.prog 47 #[.int .u64 (c : Nat), .int .u64 (u : Nat), .int .u64 (s : Nat)] w fun en w' => en = .returned (.bool (past c u s)) ∧ Below w.heap.size w w' := by
  unfold past
  have e2 : IntKind.u64.wrap (18446744073709551615 - (u : Int)) = 18446744073709551615 - (u : Int) := by rw [IntKind.wrap_u64]; omega
  by_cases h : u + s < 18446744073709551616
  · rw [decide_eq_true h, Bool.true_and, show decide (u + s < c) = decide ((u : Int) + (s : Int) < (c : Int)) from decide_eq_decide.2 (by omega)]
    have e3 : decide ((s : Int) ≤ 18446744073709551615 - (u : Int)) = true := by simp; omega
    have e4 : IntKind.u64.wrap ((u : Int) + (s : Int)) = (u : Int) + (s : Int) := by rw [IntKind.wrap_u64]; omega
    go_enter Try.func47, Try.ntmps47
    go_wp2_with fail
    go_ret
    exact ⟨by simp, Below.refl _ _⟩
  · rw [decide_eq_false h, Bool.false_and]
    have e3 : decide ((s : Int) ≤ 18446744073709551615 - (u : Int)) = false := by simp; omega
    go_enter Try.func47, Try.ntmps47
    go_wp2_with fail
    go_ret
    exact ⟨by simp, Below.refl _ _⟩

set_option maxRecDepth 100000 in
set_option maxHeartbeats 400000 in
theorem clo_sum_any (w : World) (A : Option Addr) (n cap : Nat) (l : List UInt64) (B : Nat) (hB : B ≤ w.heap.size) (h : Rd w B 1 A n (nums l)) (hn : n ≤ 1000000) :
    Calls Try.prog 44 #[.slice A n cap] w fun en w' => en = .returned (.int .u64 (sumTo l n : Nat)) ∧ Below w.heap.size w w' := by
  have H := Lib.hid h
  clear h
  go_enter Try.func44, Try.ntmps44
  go_wp2_with fail
  go_loopw [3, 10] (fun v x wr => ∃ k : Nat, k ≤ n ∧ x = .int .i64 k ∧ v = .int .u64 (sumTo l k : Nat) ∧ Below w.heap.size w wr) (fun _ x _ => n - (intOf x).toNat)
  case atStart => exact ⟨0, by omega, rfl, rfl, Below.refl _ _⟩
  case round =>
    obtain ⟨k, hk, rfl, rfl, hb⟩ := hrel
    obtain ⟨S, hS⟩ : ∃ S, S = sumTo l k := ⟨_, rfl⟩
    have hSl : S < 18446744073709551616 := by rw [hS]; exact sumTo_lt l k
    rw [← hS]
    have HS := Lib.hid hS
    clear hS
    by_cases hlt : k < n
    · obtain ⟨b, o, hkl, rfl, hbB, hcell⟩ := (H.out.below (hb.mono hB)).num hlt
      have hd : decide ((k : Int) < (n : Int)) = true := by simp; omega
      have HST := Lib.hid (sumTo_step hkl)
      obtain ⟨x, hx⟩ : ∃ x, x = l[k].toNat := ⟨_, rfl⟩
      have hxl : x < 18446744073709551616 := by rw [hx]; exact l[k].toNat_lt
      rw [← hx] at hcell
      have HX := Lib.hid hx
      clear hx
      by_cases hov : S + x < 18446744073709551616
      · have HOV := Lib.hid hov
        have HN := Lib.hid (show sumTo l (k + 1) = S + x from by rw [HST.out, ← HS.out, ← HX.out]; unfold till; rw [if_pos hov])
        clear hov
        go_wp2_with (simp only [add64_fit _ _ _ HOV.out])
        go_roundw
        case rel => exact ⟨k + 1, by omega, by go_num, by rw [HN.out]; exact int_eq (by omega), hb⟩
        case measure => simp [intOf] <;> omega
      · have HOV := Lib.hid hov
        have HN := Lib.hid (show sumTo l n = 18446744073709551615 from sumTo_top (show sumTo l (k + 1) = _ from by rw [HST.out, ← HS.out, ← HX.out]; unfold till; rw [if_neg hov]) n (by omega))
        clear hov
        go_wp2_with (simp only [add64_over _ _ _ hSl hxl HOV.out])
        go_ret
        exact ⟨by rw [HN.out]; rfl, hb⟩
    · obtain rfl : k = n := by omega
      go_wp2_with fail
      go_ret
      exact ⟨by rw [HS.out]; rfl, hb⟩

set_option maxRecDepth 100000 in
set_option maxHeartbeats 400000 in
theorem cref_sum_any (w : World) (A : Option Addr) (n cap : Nat) (l : List UInt64) (B : Nat) (hB : B ≤ w.heap.size) (h : Rd w B 1 A n (nums l)) (hn : n ≤ 1000000) :
    Calls Try.prog 45 #[.slice A n cap] w fun en w' => en = .returned (.int .u64 (sumTo l n : Nat)) ∧ Below w.heap.size w w' := by
  have H := Lib.hid h
  clear h
  go_enter Try.func45, Try.ntmps45
  go_wp2_with fail
  go_loopw [3, 4] (fun v x wr => ∃ k : Nat, k ≤ n ∧ x = .int .i64 k ∧ v = .int .u64 (sumTo l k : Nat) ∧ Below w.heap.size w wr) (fun _ x _ => n - (intOf x).toNat)
  case atStart => exact ⟨0, by omega, rfl, rfl, Below.refl _ _⟩
  case round =>
    obtain ⟨k, hk, rfl, rfl, hb⟩ := hrel
    obtain ⟨S, hS⟩ : ∃ S, S = sumTo l k := ⟨_, rfl⟩
    have hSl : S < 18446744073709551616 := by rw [hS]; exact sumTo_lt l k
    rw [← hS]
    have HS := Lib.hid hS
    clear hS
    by_cases hlt : k < n
    · obtain ⟨b, o, hkl, rfl, hbB, hcell⟩ := (H.out.below (hb.mono hB)).num hlt
      have hd : decide ((k : Int) < (n : Int)) = true := by simp; omega
      have HST := Lib.hid (sumTo_step hkl)
      obtain ⟨x, hx⟩ : ∃ x, x = l[k].toNat := ⟨_, rfl⟩
      have hxl : x < 18446744073709551616 := by rw [hx]; exact l[k].toNat_lt
      rw [← hx] at hcell
      have HX := Lib.hid hx
      clear hx
      go_wp2_with fail
      refine (cref_add_any _ S x hSl hxl).mono ?_
      rintro en w2 ⟨rfl, hbn⟩
      replace hb := hb.trans (hbn.mono hb.size)
      clear hbn
      go_wp2_with fail
      go_roundw
      case rel => exact ⟨k + 1, by omega, by go_num, by rw [HST.out, ← HS.out, ← HX.out], hb⟩
      case measure => simp [intOf] <;> omega
    · obtain rfl : k = n := by omega
      go_wp2_with fail
      go_ret
      exact ⟨by rw [HS.out]; rfl, hb⟩

end Go.Proofs.Ythknhgakompggaa
