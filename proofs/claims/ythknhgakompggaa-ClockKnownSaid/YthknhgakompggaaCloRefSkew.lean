/-
  Clocks: the document's greatest difference.
-/
import Derived.Test.YthknhgakompggaaCloSkew
namespace Go.Proofs.Ythknhgakompggaa
open Go.RowKit
attribute [local go_sem] match_undef
attribute [local irreducible] wpList
theorem skewTo_lt (l : List UInt64) (n m : Nat) : skewTo l n m < 18446744073709551616 := by
  rcases (skewTo_spec l n m).2 with h | ⟨i, j, _, _, h⟩
  · omega
  · have := numAt_lt l i
    omega
theorem skewIn_lt (l : List UInt64) (i s k : Nat) (hs : s < 18446744073709551616) : skewIn l i s k < 18446744073709551616 := by
  rcases (skewIn_spec l i s k).2.2 with h | ⟨j, _, h⟩
  · omega
  · have := numAt_lt l i
    omega
theorem skewIn_more {l : List UInt64} {i s k S a b : Nat} (hS : S = skewIn l i s k) (ha : a = numAt l i) (hb : b = numAt l k) (h : b ≤ a) : skewIn l i s (k + 1) = max S (a - b) := by
  subst hS ha hb
  rw [skewIn, if_pos h]
theorem skewIn_same {l : List UInt64} {i s k S a b : Nat} (hS : S = skewIn l i s k) (ha : a = numAt l i) (hb : b = numAt l k) (h : ¬ b ≤ a) : skewIn l i s (k + 1) = S := by
  subst hS ha hb
  rw [skewIn, if_neg h]

set_option maxRecDepth 100000 in
set_option maxHeartbeats 6000000 in
theorem cref_skew_any (w : World) (A : Option Addr) (n cap : Nat) (l : List UInt64) (B : Nat) (hB : B ≤ w.heap.size) (h : Rd w B 1 A n (nums l)) (hn : n ≤ 1000000) :
    Calls Try.prog 42 #[.slice A n cap] w fun en w' => en = .returned (.int .u64 (skewTo l n n : Nat)) ∧ Below w.heap.size w w' := by
  have H := Lib.hid h
  clear h
  go_enter Try.func42, Try.ntmps42
  go_wp2_with fail
  go_loopw [3, 4] (fun v x wr => ∃ i : Nat, i ≤ n ∧ x = .int .i64 i ∧ v = .int .u64 (skewTo l n i : Nat) ∧ Below w.heap.size w wr) (fun _ x _ => n - (intOf x).toNat)
  case atStart => exact ⟨0, by omega, rfl, rfl, Below.refl _ _⟩
  case round =>
    obtain ⟨i, hi, rfl, rfl, hb⟩ := hrel
    obtain ⟨S0, hS0⟩ : ∃ S, S = skewTo l n i := ⟨_, rfl⟩
    rw [← hS0]
    have hSl0 : S0 < 18446744073709551616 := by rw [hS0]; exact skewTo_lt _ _ _
    have HS0 := Lib.hid hS0
    clear hS0
    by_cases hlt : i < n
    · have hd : decide ((i : Int) < (n : Int)) = true := by simp; omega
      go_wp2_with fail
      go_loopw [3, 5] (fun v y wr => ∃ k : Nat, k ≤ n ∧ y = .int .i64 k ∧ v = .int .u64 (skewIn l i S0 k : Nat) ∧ Below w.heap.size w wr) (fun _ y _ => n - (intOf y).toNat)
      case atStart => exact ⟨0, by omega, rfl, rfl, hb⟩
      case round =>
        obtain ⟨k, hk, rfl, rfl, hb⟩ := hrel
        obtain ⟨S, hS⟩ : ∃ S, S = skewIn l i S0 k := ⟨_, rfl⟩
        rw [← hS]
        have hSl : S < 18446744073709551616 := by rw [hS]; exact skewIn_lt _ _ _ _ hSl0
        have HS := Lib.hid hS
        clear hS
        by_cases hlk : k < n
        · have hd2 : decide ((k : Int) < (n : Int)) = true := by simp; omega
          obtain ⟨b, o, hil, hA, hbB, hc1⟩ := (H.out.below (hb.mono hB)).num hlt
          subst hA
          obtain ⟨b', o', hkl, hA, _, hc2⟩ := (H.out.below (hb.mono hB)).num hlk
          injection hA with hA
          injection hA with e1 e2 _
          subst e1 e2
          obtain ⟨a, ha⟩ : ∃ a, a = numAt l i := ⟨_, rfl⟩
          obtain ⟨c, hc⟩ : ∃ c, c = numAt l k := ⟨_, rfl⟩
          have hal : a < 18446744073709551616 := by rw [ha]; exact numAt_lt _ _
          rw [← numAt_of hil, ← ha] at hc1
          rw [← numAt_of hkl, ← hc] at hc2
          have HA := Lib.hid ha
          have HC := Lib.hid hc
          clear ha hc
          have p1 : (0 : Int) ≤ (i : Int) := by omega
          have p2 : (i : Int) < (n : Int) := by omega
          have p3 : (0 : Int) ≤ (k : Int) := by omega
          have p4 : (k : Int) < (n : Int) := by omega
          by_cases hca : c ≤ a
          · have t1 : decide ((c : Int) ≤ (a : Int)) = true := by simp; omega
            have t1n : decide (c ≤ a) = true := by simp; omega
            have HN := Lib.hid (skewIn_more HS.out HA.out HC.out hca)
            have e5 : IntKind.u64.wrap ((a : Int) - (c : Int)) = ((a - c : Nat) : Int) := by rw [IntKind.wrap_u64]; omega
            obtain ⟨d, hd3⟩ : ∃ d, a - c = d := ⟨_, rfl⟩
            rw [hd3] at e5 HN
            clear hd3 hal
            by_cases hmx : S < d
            · have HN2 := Lib.hid (show skewIn l i S0 (k + 1) = d from by rw [HN.out]; omega)
              clear HN
              go_wp2_with fail
              go_quiet (fail)
              go_wp2_with fail
              go_quiet (fail)
              go_wp2_with fail
              go_roundw
              case rel => exact ⟨k + 1, by omega, by go_num, by rw [HN2.out], below_drewN hb _⟩
              case measure => simp [intOf] <;> omega
            · have HN2 := Lib.hid (show skewIn l i S0 (k + 1) = S from by rw [HN.out]; omega)
              clear HN
              go_wp2_with fail
              go_quiet (fail)
              go_wp2_with fail
              go_quiet (fail)
              go_wp2_with fail
              go_roundw
              case rel => exact ⟨k + 1, by omega, by go_num, by rw [HN2.out], below_drewN hb _⟩
              case measure => simp [intOf] <;> omega
          · have t1 : decide ((c : Int) ≤ (a : Int)) = false := by simp; omega
            have t1n : decide (c ≤ a) = false := by simp; omega
            have HN := Lib.hid (skewIn_same HS.out HA.out HC.out hca)
            go_wp2_with fail
            go_quiet (fail)
            go_wp2_with fail
            go_roundw
            case rel => exact ⟨k + 1, by omega, by go_num, by rw [HN.out], below_drewN hb _⟩
            case measure => simp [intOf] <;> omega
        · obtain rfl : k = n := by omega
          have HE := Lib.hid (show skewTo l k (i + 1) = S from by rw [skewTo, ← HS0.out, HS.out])
          go_wp2_with fail
          go_roundw
          case rel => exact ⟨i + 1, by omega, by go_num, by rw [HE.out], hb⟩
          case measure => simp [intOf] <;> omega
    · obtain rfl : i = n := by omega
      go_wp2_with fail
      go_ret
      exact ⟨by rw [HS0.out]; rfl, hb⟩

end Go.Proofs.Ythknhgakompggaa
