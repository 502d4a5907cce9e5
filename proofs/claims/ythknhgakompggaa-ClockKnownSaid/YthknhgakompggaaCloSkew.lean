/-
  Clocks: the greatest difference, as the program and the document find it.
-/
import Derived.Test.YthknhgakompggaaCloFuns
import Derived.Test.YthknhgakompggaaCloBest
namespace Go.Proofs.Ythknhgakompggaa
open Go.RowKit
attribute [local go_sem] match_undef
attribute [local irreducible] wpList

set_option maxRecDepth 100000 in
set_option maxHeartbeats 2000000 in
theorem clo_gt_any (w : World) (a b : Nat) :
    Calls Try.prog 56 #[.int .u64 (a : Nat), .int .u64 (b : Nat)] w fun en w' => en = .returned (.bool (gtN a b)) ∧ Below w.heap.size w w' := by
  rw [show gtN a b = decide ((b : Int) < (a : Int)) from by unfold gtN; exact decide_eq_decide.2 (by omega)]
  go_enter Try.func56, Try.ntmps56
  go_wp2_with fail
  go_ret
  exact ⟨by simp, Below.refl _ _⟩

set_option maxRecDepth 100000 in
set_option maxHeartbeats 2000000 in
theorem clo_best_gt (w : World) (gh : Nat) (A : Option Addr) (n cap : Nat) (l : List UInt64) (hc : w.cell? ⟨gh, 0, none⟩ = some (.slice A n cap)) (hgh : gh < w.heap.size) (h : Rd w w.heap.size 1 A n (nums l)) (hn : n ≤ 1000000) (hpos : 0 < n) :
    Calls Try.prog 55 #[.func (Fn.func 56) #[] #[], .pointer (some ⟨gh, 0, none⟩)] w fun en w' => en = .returned (.int .u64 (bestTo gtN l n : Nat)) ∧ Below w.heap.size w w' := by
  have H := Lib.hid h
  have HC := Lib.hid hc
  have HG := Lib.hid hgh
  obtain ⟨b, o, hkl, rfl, hbB, hcell⟩ := h.num hpos
  obtain ⟨x0, hx0⟩ : ∃ x, x = numAt l 0 := ⟨_, rfl⟩
  rw [← numAt_of hkl, ← hx0, Nat.add_zero] at hcell
  have HX0 := Lib.hid hx0
  clear hx0 h hgh
  have p0 : (0 : Int) < (n : Int) := by omega
  go_enter Try.func55, Try.ntmps55
  go_wp2_with fail
  clear hc hcell
  go_loopw [4, 12] (fun v y wr => ∃ k : Nat, k ≤ n ∧ y = .int .i64 k ∧ v = .int .u64 (bestTo gtN l k : Nat) ∧ Below w.heap.size w wr) (fun _ y _ => n - (intOf y).toNat)
  case atStart => exact ⟨0, by omega, rfl, by rw [HX0.out]; rfl, Below.refl _ _⟩
  case round =>
    obtain ⟨k, hk, rfl, rfl, hb⟩ := hrel
    obtain ⟨S, hS⟩ : ∃ S, S = bestTo gtN l k := ⟨_, rfl⟩
    rw [← hS]
    have HS := Lib.hid hS
    clear hS
    by_cases hlt : k < n
    · obtain ⟨b', o', hkl2, hA, _, hcell⟩ := (H.out.below hb).num hlt
      injection hA with hA
      injection hA with e1 e2 _
      subst e1 e2
      obtain ⟨x, hx⟩ : ∃ x, x = numAt l k := ⟨_, rfl⟩
      rw [← numAt_of hkl2, ← hx] at hcell
      have HX := Lib.hid hx
      clear hx
      have hd : decide ((k : Int) < (n : Int)) = true := by simp; omega
      go_wp2_with fail
      refine (clo_gt_any _ x S).mono ?_
      rintro en w2 ⟨rfl, hbn⟩
      replace hb := hb.trans (hbn.mono hb.size)
      clear hbn hcell
      cases hbt : gtN x S
      all_goals
        have HB := Lib.hid hbt
        clear hbt
        go_wp2_with fail
        go_roundw
        case measure => simp [intOf] <;> omega
        case rel => exact ⟨k + 1, by omega, by go_num, by first | rw [bestTo_stay HS.out HX.out.symm HB.out] | rw [bestTo_step HS.out HX.out.symm HB.out], hb⟩
    · obtain rfl : k = n := by omega
      go_wp2_with fail
      go_ret
      exact ⟨by rw [HS.out]; rfl, hb⟩

set_option maxRecDepth 100000 in
set_option maxHeartbeats 2000000 in
theorem clo_lt_any (w : World) (a b : Nat) :
    Calls Try.prog 57 #[.int .u64 (a : Nat), .int .u64 (b : Nat)] w fun en w' => en = .returned (.bool (ltN a b)) ∧ Below w.heap.size w w' := by
  rw [show ltN a b = decide ((a : Int) < (b : Int)) from by unfold ltN; exact decide_eq_decide.2 (by omega)]
  go_enter Try.func57, Try.ntmps57
  go_wp2_with fail
  go_ret
  exact ⟨by simp, Below.refl _ _⟩

set_option maxRecDepth 100000 in
set_option maxHeartbeats 2000000 in
theorem clo_best_lt (w : World) (gh : Nat) (A : Option Addr) (n cap : Nat) (l : List UInt64) (hc : w.cell? ⟨gh, 0, none⟩ = some (.slice A n cap)) (hgh : gh < w.heap.size) (h : Rd w w.heap.size 1 A n (nums l)) (hn : n ≤ 1000000) (hpos : 0 < n) :
    Calls Try.prog 55 #[.func (Fn.func 57) #[] #[], .pointer (some ⟨gh, 0, none⟩)] w fun en w' => en = .returned (.int .u64 (bestTo ltN l n : Nat)) ∧ Below w.heap.size w w' := by
  have H := Lib.hid h
  have HC := Lib.hid hc
  have HG := Lib.hid hgh
  obtain ⟨b, o, hkl, rfl, hbB, hcell⟩ := h.num hpos
  obtain ⟨x0, hx0⟩ : ∃ x, x = numAt l 0 := ⟨_, rfl⟩
  rw [← numAt_of hkl, ← hx0, Nat.add_zero] at hcell
  have HX0 := Lib.hid hx0
  clear hx0 h hgh
  have p0 : (0 : Int) < (n : Int) := by omega
  go_enter Try.func55, Try.ntmps55
  go_wp2_with fail
  clear hc hcell
  go_loopw [4, 12] (fun v y wr => ∃ k : Nat, k ≤ n ∧ y = .int .i64 k ∧ v = .int .u64 (bestTo ltN l k : Nat) ∧ Below w.heap.size w wr) (fun _ y _ => n - (intOf y).toNat)
  case atStart => exact ⟨0, by omega, rfl, by rw [HX0.out]; rfl, Below.refl _ _⟩
  case round =>
    obtain ⟨k, hk, rfl, rfl, hb⟩ := hrel
    obtain ⟨S, hS⟩ : ∃ S, S = bestTo ltN l k := ⟨_, rfl⟩
    rw [← hS]
    have HS := Lib.hid hS
    clear hS
    by_cases hlt : k < n
    · obtain ⟨b', o', hkl2, hA, _, hcell⟩ := (H.out.below hb).num hlt
      injection hA with hA
      injection hA with e1 e2 _
      subst e1 e2
      obtain ⟨x, hx⟩ : ∃ x, x = numAt l k := ⟨_, rfl⟩
      rw [← numAt_of hkl2, ← hx] at hcell
      have HX := Lib.hid hx
      clear hx
      have hd : decide ((k : Int) < (n : Int)) = true := by simp; omega
      go_wp2_with fail
      refine (clo_lt_any _ x S).mono ?_
      rintro en w2 ⟨rfl, hbn⟩
      replace hb := hb.trans (hbn.mono hb.size)
      clear hbn hcell
      cases hbt : ltN x S
      all_goals
        have HB := Lib.hid hbt
        clear hbt
        go_wp2_with fail
        go_roundw
        case measure => simp [intOf] <;> omega
        case rel => exact ⟨k + 1, by omega, by go_num, by first | rw [bestTo_stay HS.out HX.out.symm HB.out] | rw [bestTo_step HS.out HX.out.symm HB.out], hb⟩
    · obtain rfl : k = n := by omega
      go_wp2_with fail
      go_ret
      exact ⟨by rw [HS.out]; rfl, hb⟩

set_option maxRecDepth 100000 in
set_option maxHeartbeats 2000000 in
theorem clo_skew_any (w : World) (base g : Nat) (D : Option Addr) (c n : Nat) (l : List UInt64) (h : ClkAt w base g D c n l) (hn : n ≤ 1000000) :
    Calls Try.prog 41 #[.pointer (some ⟨g, 0, none⟩)] w fun en w' => en = .returned (.int .u64 (if n = 0 then 0 else skew l n : Nat)) ∧ Below w.heap.size w w' := by
  have H := Lib.hid h
  clear h
  by_cases hz : n = 0
  · subst hz
    go_enter Try.func41, Try.ntmps41
    go_wp2_with fail
    refine (clo_hands_any w base g D c 0 l H.out hn).mono ?_
    rintro en w1 ⟨D1, c1, rfl, ho, hb⟩
    clear ho
    go_wp2_with fail
    go_ret
    exact ⟨by simp, hb.alloc hb.size _⟩
  · rw [if_neg hz]
    have e0 : ((n : Int) == 0) = false := by simp; omega
    obtain ⟨M, hM⟩ : ∃ M, bestTo gtN l n = M := ⟨_, rfl⟩
    obtain ⟨m, hm⟩ : ∃ m, bestTo ltN l n = m := ⟨_, rfl⟩
    have hle : m ≤ M := by rw [← hM, ← hm]; exact best_le l n
    have hMl : M < 18446744073709551616 := by rw [← hM]; exact bestTo_lt _ _ _
    have e1 : IntKind.u64.wrap ((M : Int) - (m : Int)) = (M : Int) - (m : Int) := by rw [IntKind.wrap_u64]; omega
    have HM := Lib.hid hM
    have HMM := Lib.hid hm
    have HZ := Lib.hid (show 0 < n by omega)
    clear hM hm hz
    go_enter Try.func41, Try.ntmps41
    go_wp2_with fail
    refine (clo_hands_any w base g D c n l H.out hn).mono ?_
    rintro en w1 ⟨D1, c1, rfl, ho, hb⟩
    have HO := Lib.hid ho
    clear ho
    go_wp2_with fail
    have ko := HO.out.alloc (.cells #[.slice D1 n c1] 59)
    have kh : Whole (w1.alloc (.cells #[.slice D1 n c1] 59)) w1.heap.size 59 #[.slice D1 n c1] := Whole.new w1 _ _
    replace hb := hb.alloc hb.size (.cells #[.slice D1 n c1] 59)
    obtain ⟨gh, hgh⟩ : ∃ x, x = w1.heap.size := ⟨_, rfl⟩
    rw [← hgh] at kh ⊢
    generalize World.alloc w1 _ = v1 at ko kh hb ⊢
    clear hgh HO
    have KO := Lib.hid ko
    clear ko
    refine (clo_best_gt v1 gh D1 n c1 l (kh.cell 0) kh.lt (Rd.of_own KO.out) hn HZ.out).mono ?_
    rintro en w2 ⟨rfl, hbn⟩
    rw [HM.out]
    replace KO := Lib.hid (own_ext KO.out hbn)
    replace kh := kh.below hbn kh.lt
    replace hb := hb.trans (hbn.mono hb.size)
    clear hbn
    go_wp2_with fail
    refine (clo_best_lt w2 gh D1 n c1 l (kh.cell 0) kh.lt (Rd.of_own KO.out) hn HZ.out).mono ?_
    rintro en w3 ⟨rfl, hbn⟩
    rw [HMM.out]
    replace hb := hb.trans (hbn.mono hb.size)
    clear hbn
    go_wp2_with fail
    go_ret
    exact ⟨by unfold skew; rw [HM.out, HMM.out]; exact ret_eq (by omega), hb⟩

end Go.Proofs.Ythknhgakompggaa
