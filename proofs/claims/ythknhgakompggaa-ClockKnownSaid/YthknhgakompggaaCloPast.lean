/-
  The walk of ClockPast: it returns true.
-/
import Derived.Test.YthknhgakompggaaCloWorks
namespace Go.Proofs.Ythknhgakompggaa
open Go.RowKit
attribute [local go_sem] match_undef
attribute [local irreducible] wpList
theorem past_more {x u s m : Nat} (hx : x < 18446744073709551616) (h : past x u s = true) : past (till x m) u s = true ∧ u < x := by
  simp only [past, Bool.and_eq_true, decide_eq_true_eq] at h ⊢
  unfold till
  split <;> omega
theorem past_all {l : List UInt64} {n k i u s : Nat} (hk : k < n) (hi : i < n) (h : past (numAt l k) u s = true) (hs : skewOf l n ≤ s) : u < numAt l i := by
  have h1 := skew_ge l n hk hi
  simp only [past, Bool.and_eq_true, decide_eq_true_eq] at h
  unfold skewOf at hs
  rw [if_neg (by omega)] at hs
  omega

set_option maxRecDepth 100000 in
set_option maxHeartbeats 4000000 in
theorem clockPast_any (w : World) (A : Option Addr) (n cap : Nat) (l : List UInt64) (h : Rd w w.heap.size 1 A n (nums l)) (hn : n ≤ 17592186044416) (z : Int) (u s : Nat) (m : UInt64) (hu : u < 18446744073709551616) (hs : s < 18446744073709551616) :
    Calls Try.prog 10 #[.slice A n cap, .int .i64 z, .int .u64 (u : Nat), .int .u64 (s : Nat), .int .u64 (m.toNat : Nat)] w fun en w' => en = .returned (.bool true) ∧ Below w.heap.size w w' := by
  have H := Lib.hid h
  clear h
  go_enter Try.func10, Try.ntmps10
  go_wp2_with fail
  refine (clo_of_any w A n cap l w.heap.size (Nat.le_refl _) H.out hn).mono ?_
  rintro en w1 ⟨g, D, c, rfl, hk, hb⟩
  have HK := Lib.hid hk
  clear hk
  by_cases hbad : 70 < n ∨ z < 0 ∨ (n : Int) ≤ z
  · go_wp2_with fail
    all_goals
      refine (clo_works_any _).mono ?_
      rintro en w9 ⟨rfl, hbn⟩
      replace hb := hb.trans (hbn.mono hb.size)
      clear hbn
      go_wp2_with fail
      go_ret
      exact ⟨rfl, hb⟩
  · obtain ⟨k, rfl⟩ : ∃ k : Nat, z = (k : Int) := ⟨z.toNat, by omega⟩
    have hkn : k < n := by omega
    have hn70 : n ≤ 70 := by omega
    have hkl : k < l.length := by have := HK.out.len; omega
    clear hbad
    have t1 : decide ((70 : Int) < (n : Int)) = false := by simp; omega
    have t2 : decide ((k : Int) < 0) = false := by simp
    have t3 : decide ((n : Int) ≤ (k : Int)) = false := by simp; omega
    obtain ⟨x, hx⟩ : ∃ x, l[k] = x := ⟨_, rfl⟩
    have HX := Lib.hid hx
    have HXN := Lib.hid (show numAt l k = x.toNat from by rw [numAt_of hkl, hx])
    clear hx
    go_wp2_with fail
    refine (clo_read_in w1 _ g D c n l HK.out k hkl).mono ?_
    rintro en w2 ⟨rfl, hbn⟩
    rw [HX.out]
    replace hb := hb.trans (hbn.mono hb.size)
    replace HK := Lib.hid (HK.out.below hbn)
    clear hbn
    go_wp2_with fail
    cases hp : past x.toNat u s
    · have HP := Lib.hid hp
      clear hp
      refine (clo_past_any _ x.toNat u s hu hs).mono ?_
      rintro en w3 ⟨rfl, hbn⟩
      rw [HP.out]
      replace hb := hb.trans (hbn.mono hb.size)
      replace HK := Lib.hid (HK.out.below hbn)
      clear hbn
      go_wp2_with fail
      refine (clo_works_any _).mono ?_
      rintro en w9 ⟨rfl, hbn⟩
      replace hb := hb.trans (hbn.mono hb.size)
      clear hbn
      go_wp2_with fail
      go_ret
      exact ⟨rfl, hb⟩
    · have HP := Lib.hid hp
      have HM := Lib.hid (past_more (m := m.toNat) x.toNat_lt hp).1
      have t40 : u < x.toNat := (past_more (m := m.toNat) x.toNat_lt hp).2
      have t4 : decide (x.toNat ≤ u) = false := by simp; omega
      have t41 : decide ((x.toNat : Int) ≤ (u : Int)) = false := by simp; omega
      clear hp
      refine (clo_past_any _ x.toNat u s hu hs).mono ?_
      rintro en w3 ⟨rfl, hbn⟩
      rw [HP.out]
      replace hb := hb.trans (hbn.mono hb.size)
      replace HK := Lib.hid (HK.out.below hbn)
      clear hbn
      go_wp2_with fail
      refine (clo_read_in w3 _ g D c n l HK.out k hkl).mono ?_
      rintro en w4 ⟨rfl, hbn⟩
      rw [HX.out]
      replace hb := hb.trans (hbn.mono hb.size)
      replace HK := Lib.hid (HK.out.below hbn)
      clear hbn
      go_wp2_with fail
      have hr : Rd (w4.alloc (.cells #[.int .u64 (x.toNat : Nat), .int .u64 (m.toNat : Nat)] 22)) (w4.heap.size + 1) 1 (some ⟨w4.heap.size, 0, none⟩) 2 (nums [x, m]) := Rd.two w4 _ x m
      replace HK := Lib.hid (HK.out.below (below1 w4 (.cells #[.int .u64 (x.toNat : Nat), .int .u64 (m.toNat : Nat)] 22)))
      replace hb := hb.alloc hb.size (.cells #[.int .u64 (x.toNat : Nat), .int .u64 (m.toNat : Nat)] 22)
      refine (clo_sum_any _ _ 2 2 [x, m] _ (by simp) hr (by omega)).mono ?_
      rintro en w5 ⟨rfl, hbn⟩
      rw [sum2]
      replace hb := hb.trans (hbn.mono hb.size)
      replace HK := Lib.hid (HK.out.below hbn)
      clear hbn
      go_wp2_with fail
      clear hr
      refine (clo_past_any _ (till x.toNat m.toNat) u s hu hs).mono ?_
      rintro en w6 ⟨rfl, hbn⟩
      rw [HM.out]
      replace hb := hb.trans (hbn.mono hb.size)
      replace HK := Lib.hid (HK.out.below hbn)
      clear hbn
      go_wp2_with fail
      refine (clo_read_in w6 _ g D c n l HK.out k hkl).mono ?_
      rintro en w7 ⟨rfl, hbn⟩
      rw [HX.out]
      replace hb := hb.trans (hbn.mono hb.size)
      replace HK := Lib.hid (HK.out.below hbn)
      clear hbn
      go_wp2_with fail
      cases hw : decide (skewOf l n ≤ s)
      · have HW := Lib.hid hw
        clear hw
        refine (clo_within_any w7 _ g D c n l HK.out (by omega) s).mono ?_
        rintro en w8 ⟨rfl, hbn⟩
        rw [HW.out]
        replace hb := hb.trans (hbn.mono hb.size)
        replace HK := Lib.hid (HK.out.below hbn)
        clear hbn
        go_wp2_with fail
        refine (clo_works_any _).mono ?_
        rintro en w9 ⟨rfl, hbn⟩
        replace hb := hb.trans (hbn.mono hb.size)
        clear hbn
        go_wp2_with fail
        go_ret
        exact ⟨rfl, hb⟩
      · have HW := Lib.hid hw
        clear hw
        refine (clo_within_any w7 _ g D c n l HK.out (by omega) s).mono ?_
        rintro en w8 ⟨rfl, hbn⟩
        rw [HW.out]
        replace hb := hb.trans (hbn.mono hb.size)
        replace HK := Lib.hid (HK.out.below hbn)
        clear hbn
        go_wp2_with fail
        go_loopw [12] (fun y wr => ∃ i : Nat, i ≤ n ∧ y = .int .i64 i ∧ Hid (ClkAt wr w.heap.size g D c n l) ∧ Below w.heap.size w wr) (fun y _ => n - (intOf y).toNat)
        case atStart => exact ⟨0, by omega, rfl, HK, hb⟩
        case round =>
          obtain ⟨i, hi, rfl, HK, hb⟩ := hrel
          by_cases hlt : i < n
          · have hil : i < l.length := by have := HK.out.len; omega
            have hd : decide ((i : Int) < (n : Int)) = true := by simp; omega
            obtain ⟨v, hv⟩ : ∃ v, l[i] = v := ⟨_, rfl⟩
            have hlv : u < v.toNat := by
              have := past_all (l := l) (n := n) (k := k) (i := i) (u := u) (s := s) hkn hlt (by rw [HXN.out]; exact HP.out) (of_decide_eq_true HW.out)
              rw [numAt_of hil, hv] at this
              exact this
            have t5 : decide (v.toNat ≤ u) = false := by simp; omega
            have t51 : decide ((v.toNat : Int) ≤ (u : Int)) = false := by simp; omega
            have HV := Lib.hid hv
            clear hv
            go_wp2_with fail
            refine (clo_read_in wr _ g D c n l HK.out i hil).mono ?_
            rintro en w9 ⟨rfl, hbn⟩
            rw [HV.out]
            replace hb := hb.trans (hbn.mono hb.size)
            replace HK := Lib.hid (HK.out.below hbn)
            clear hbn
            go_wp2_with fail
            go_roundw
            case rel => exact ⟨i + 1, by omega, by go_num, HK, hb⟩
            case measure => simp [intOf] <;> omega
          · obtain rfl : i = n := by omega
            go_wp2_with fail
            refine (clo_works_any _).mono ?_
            rintro en w9 ⟨rfl, hbn⟩
            replace hb := hb.trans (hbn.mono hb.size)
            clear hbn
            go_wp2_with fail
            go_ret
            exact ⟨rfl, hb⟩

end Go.Proofs.Ythknhgakompggaa
