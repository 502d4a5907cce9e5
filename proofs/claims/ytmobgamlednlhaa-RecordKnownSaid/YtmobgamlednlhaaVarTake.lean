/-
  The program's reading: Take, TakeText, TakeAll.
-/
import Derived.Test.YtmobgamlednlhaaVarFuns
namespace Go.Proofs.Ytmobgamlednlhaa
open Go.RowKit
theorem or_digit {acc x k : Nat} (ha : acc < 2 ^ (7 * k)) (hx : x < 256) (hk : k ≤ 9) (h9 : k = 9 → x ≤ 1) :
    bits BinOp.or IntKind.u64 (acc : Int) (IntKind.u64.wrap (IntKind.u64.wrap (bits BinOp.andNot IntKind.u8 (x : Int) 128) * 2 ^ (7 * k))) = ((acc + x % 128 * 2 ^ (7 * k) : Nat) : Int) ∧ acc + x % 128 * 2 ^ (7 * k) < 2 ^ (7 * (k + 1)) := by
  have e1 : bits BinOp.andNot IntKind.u8 (x : Int) 128 = ((x % 128 : Nat) : Int) := by
    have := u8_andNot_nat x 128 hx (by omega)
    rw [show 255 - 128 = 127 from rfl, nat_mask7] at this
    exact this
  have hlt : x % 128 * 2 ^ (7 * k) < 18446744073709551616 := by
    by_cases h : k = 9
    · subst h
      have := h9 rfl
      have h2 : x % 128 ≤ 1 := by omega
      calc x % 128 * 2 ^ (7 * 9) ≤ 1 * 2 ^ (7 * 9) := Nat.mul_le_mul_right _ h2
        _ < 18446744073709551616 := by decide
    · calc x % 128 * 2 ^ (7 * k) ≤ 127 * 2 ^ (7 * 8) := Nat.mul_le_mul (by omega) (Nat.pow_le_pow_right (by omega) (by omega))
        _ < 18446744073709551616 := by decide
  have hal : acc < 18446744073709551616 := by
    have : 2 ^ (7 * k) ≤ 2 ^ (7 * 9) := Nat.pow_le_pow_right (by omega) (by omega)
    omega
  have w1 : ∀ n : Nat, n < 18446744073709551616 → IntKind.u64.wrap (n : Int) = n := by
    intro n hn
    rw [IntKind.wrap_u64]; omega
  refine ⟨?_, ?_⟩
  · rw [e1, w1 _ (by omega), show ((x % 128 : Nat) : Int) * 2 ^ (7 * k) = ((x % 128 * 2 ^ (7 * k) : Nat) : Int) by push_cast; rfl, w1 _ hlt, u64_or_nat _ _ hal hlt]
    congr 1
    rw [Nat.or_comm, Nat.mul_comm, ← Nat.two_pow_add_eq_or_of_lt ha, Nat.add_comm]
  · have e : 2 ^ (7 * (k + 1)) = 2 ^ (7 * k) * 128 := by rw [show 7 * (k + 1) = 7 * k + 7 by omega, Nat.pow_add]
    have h2 : x % 128 ≤ 127 := by omega
    have h3 : x % 128 * 2 ^ (7 * k) ≤ 127 * 2 ^ (7 * k) := Nat.mul_le_mul_right _ h2
    omega
set_option maxHeartbeats 1000000 in
set_option maxRecDepth 100000 in
theorem take_any (w : World) (A : Option Addr) (n cap : Nat) (b : List UInt8) (B : Nat) (h : Rd w B 1 A n (byts b)) (hc : n ≤ cap) (hm : n ≤ 100000000) (p : Int) (hp1 : -9223372036854775808 ≤ p) (hp2 : p ≤ 9223372036854775807) :
    Calls Try.prog 48 #[.slice A n cap, .int .i64 p] w fun e w' => e = .returned (.tuple #[.int .u64 ((Var.take b p).1 : Nat), .int .i64 (Var.take b p).2.1, .int .i64 ((Var.take b p).2.2 : Nat)]) ∧ w = w' := by
  have hl := h.blen
  by_cases hneg : p < 0
  · have e : Var.take b p = (0, p, 10) := by unfold Var.take; rw [if_pos (.inl hneg)]
    have HE := Lib.hid e
    clear h hl e
    go_enter Try.func48, Try.ntmps48
    go_wp2_with fail
    go_step3
    go_wp2_with fail
    rw [Exit.noGoto_ret]
    go_ret3
    exact ⟨by rw [HE.out]; rfl, rfl⟩
  obtain ⟨q, rfl⟩ : ∃ q : Nat, p = q := ⟨p.toNat, by omega⟩
  by_cases hbig : n ≤ q
  · have e : Var.take b q = (0, (q : Int), 10) := by unfold Var.take; rw [if_pos (.inr (by omega))]
    have HE := Lib.hid e
    clear h hl e
    go_enter Try.func48, Try.ntmps48
    go_wp2_with fail
    go_step3
    go_wp2_with fail
    rw [Exit.noGoto_ret]
    go_ret3
    exact ⟨by rw [HE.out]; rfl, rfl⟩
  · have hqn : q < n := by omega
    have h2 := h.back (i := q) (cap := cap) (by omega) hc
    obtain ⟨m, hmn, hmm⟩ : ∃ m, n - q = m ∧ 0 < m := ⟨_, rfl, by omega⟩
    have hqc : q ≤ cap := by omega
    have HMN := Lib.hid hmn
    have hqm : m ≤ 100000000 := by omega
    have hnq : q + m = n := by omega
    rw [if_neg (show ¬ cap = q by omega)] at h2
    rw [hmn] at h2
    obtain ⟨l, hl2⟩ : ∃ l, b.drop q = l := ⟨_, rfl⟩
    rw [hl2] at h2
    have e : Var.take b q = if (Var.tk l 0 0).1 = 0 then ((Var.tk l 0 0).2.1, (q : Int) + (Var.tk l 0 0).2.2, 0) else (0, (q : Int), (Var.tk l 0 0).1) := by
      unfold Var.take
      rw [if_neg (by omega)]
      simp only [Int.toNat_natCast, hl2]
    have HE := Lib.hid e
    have HNQ := Lib.hid hnq
    clear h hl e hl2 hnq
    go_enter Try.func48, Try.ntmps48
    go_wp2_with fail
    go_step3
    go_wp2_with fail
    go_step3
    go_wp2_with fail
    generalize Option.map (fun x => x.add q) A = A2 at *
    go_loop [4, 6, 23] (fun x e i => ∃ k acc : Nat, k ≤ m ∧ k ≤ 9 ∧ i = .int .i64 k ∧ e = .int .i64 10 ∧ x = .int .u64 acc ∧ acc < 2 ^ (7 * k) ∧ Hid (Var.tk l 0 0 = Var.tk (l.drop k) k acc)) (fun _ _ i => m - (intOf i).toNat)
    case atStart => exact ⟨0, 0, by omega, by omega, rfl, rfl, rfl, by decide, rfl⟩
    case round =>
      obtain ⟨k, acc, hk, hk9, rfl, rfl, rfl, hacc, HT⟩ := hrel
      have HA := Lib.hid hacc
      clear hacc
      by_cases hlt : k < m
      · obtain ⟨bb, o, hkl, rfl, hbB, hcell⟩ := h2.byte hlt
        have HD := Lib.hid (List.drop_eq_getElem_cons hkl)
        obtain ⟨c, hc2⟩ : ∃ c, c = l[k] := ⟨_, rfl⟩
        rw [← hc2] at HD hcell
        have hcl := c.toNat_lt
        obtain ⟨x, hx⟩ : ∃ x, x = c.toNat := ⟨_, rfl⟩
        rw [← hx] at hcell hcl
        have HX := Lib.hid hx
        have hd : decide ((k : Int) < (m : Int)) = true := by simp; omega
        have hk1 : (0 : Int) ≤ (k : Int) := by omega
        have hk2 : (k : Int) < (m : Int) := by omega
        clear hc2 h2
        by_cases h11 : (k = 9 ∧ 1 < x) ∨ (x < 128 ∧ x = 0 ∧ 0 < k)
        · have HE2 : Hid (Var.take b q = (0, (q : Int), 11)) := by
            have ht : Var.tk l 0 0 = (11, 0, 0) := by
              rw [HT.out, HD.out]
              exact Var.tk_long (by rw [← hx]; exact h11)
            show _ = _
            rw [HE.out, ht]
            rfl
          clear HT HD hx HE
          by_cases h9 : k = 9
          · subst h9
            by_cases h1 : 1 < x
            · have hd1 : decide ((1 : Int) < (x : Int)) = true := by simp; omega
              go_wp2_with fail
              go_ret3
              exact ⟨by rw [HE2.out]; rfl, rfl⟩
            · obtain rfl : x = 0 := by omega
              go_wp2_with fail
              go_ret3
              exact ⟨by rw [HE2.out]; rfl, rfl⟩
          · obtain rfl : x = 0 := by omega
            have h9b : ((k : Int) == 9) = false := by rw [beq_eq_false_iff_ne]; omega
            have hk0 : decide ((0 : Int) < (k : Int)) = true := by simp; omega
            go_wp2_with fail
            go_ret3
            exact ⟨by rw [HE2.out]; rfl, rfl⟩
        · have hxx : c.toNat = x := hx.symm
          by_cases hlast : x < 128
          · have HE2 : Hid (Var.take b q = (acc + x % 128 * 2 ^ (7 * k), (q : Int) + (k + 1 : Nat), 0)) := by
              have ht : Var.tk l 0 0 = (0, acc + x % 128 * 2 ^ (7 * k), k + 1) := by
                rw [HT.out, HD.out, Var.tk_last (by rw [hxx]; exact h11) (by rw [hxx]; exact hlast), hxx]
              show _ = _
              rw [HE.out, ht]
              rfl
            clear HT HD hx hxx HE
            have hdl : decide ((x : Int) < 128) = true := by simp; omega
            by_cases h9 : k = 9
            · subst h9
              obtain rfl : x = 1 := by omega
              have HO : Hid (bits BinOp.or IntKind.u64 (acc : Int) (IntKind.u64.wrap (IntKind.u64.wrap (bits BinOp.andNot IntKind.u8 1 128) * 9223372036854775808)) = ((acc + 1 % 128 * 2 ^ (7 * 9) : Nat) : Int)) :=
                (or_digit HA.out (show 1 < 256 by omega) (show 9 ≤ 9 by omega) (by omega)).1
              go_wp2_with fail
              go_ret3
              refine ⟨?_, rfl⟩
              rw [HE2.out]
              go_simp
              rw [HO.out]
              exact ⟨by omega, by omega⟩
            · have h9b : ((k : Int) == 9) = false := by rw [beq_eq_false_iff_ne]; omega
              by_cases hx0 : x = 0
              · obtain rfl : k = 0 := by omega
                subst hx0
                rw [Nat.add_zero] at hcell
                obtain rfl : acc = 0 := by have := HA.out; omega
                go_wp2_with fail
                go_ret3
                refine ⟨?_, rfl⟩
                rw [HE2.out]
                rfl
              · have hx0b : ((x : Int) == 0) = false := by rw [beq_eq_false_iff_ne]; omega
                have HO := Lib.hid (or_digit HA.out (show x < 256 by omega) hk9 (by omega)).1
                go_wp2_with fail
                go_ret3
                refine ⟨?_, rfl⟩
                rw [HE2.out, HO.out]
                rfl
          · have HE2 : Hid (Var.tk l 0 0 = Var.tk (l.drop (k + 1)) (k + 1) (acc + x % 128 * 2 ^ (7 * k))) := by
              show _ = _
              rw [HT.out, HD.out, Var.tk_more (by rw [hxx]; exact h11) (by rw [hxx]; exact hlast), hxx]
            clear HT HD hx hxx
            have hdl : decide ((x : Int) < 128) = false := by simp; omega
            have h9b : ((k : Int) == 9) = false := by rw [beq_eq_false_iff_ne]; omega
            have HO := Lib.hid (or_digit HA.out (show x < 256 by omega) hk9 (by omega))
            go_wp2_with fail
            go_round
            case rel =>
              exact ⟨k + 1, _, by omega, by omega, by go_num, rfl, int_eq HO.out.1, HO.out.2, HE2⟩
            case measure => simp [intOf]; omega
      · obtain rfl : k = m := by omega
        have HE2 : Hid (Var.take b q = (0, (q : Int), 10)) := by
          have ht : Var.tk l 0 0 = (10, 0, 0) := by
            rw [HT.out, List.drop_of_length_le (by rw [h2.blen]; omega)]
            rfl
          show _ = _
          rw [HE.out, ht]
          rfl
        clear HT HE
        go_wp2_with fail
        go_ret3
        exact ⟨by rw [HE2.out]; rfl, rfl⟩
end Go.Proofs.Ytmobgamlednlhaa
