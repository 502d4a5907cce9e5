/-
  The document's check, digit by digit: Step, Update, Sum, Table.
-/
import Derived.Test.YtmobgamlednlhaaCrcFuns
import Derived.Test.YtmobgamlednlhaaAppend
namespace Go.Proofs.Ytmobgamlednlhaa
open Go.RowKit
set_option maxHeartbeats 400000 in
theorem refStep_any (w : World) (c : Nat) (hc : c < 4294967296) :
    Calls Try.prog 54 #[.int .u32 (c : Nat)] w fun e w' => e = .returned (.int .u32 (Crc.stp c : Nat)) ∧ w = w' := by
  have h : c % 2 = 0 ∨ c % 2 = 1 := by omega
  rcases h with h | h
  · have hb : (((c : Int) % 2) == 1) = false := by rw [beq_eq_false_iff_ne]; omega
    have H := Lib.hid h
    clear h
    go_enter Try.func54, Try.ntmps54
    go_wp2_with fail
    go_ret
    refine ⟨ret_eq ?_, rfl⟩
    unfold Crc.stp
    rw [H.out]
    simp
  · have hb : (((c : Int) % 2) == 1) = true := by rw [beq_iff_eq]; omega
    have H := Lib.hid h
    clear h
    go_enter Try.func54, Try.ntmps54
    go_wp2_with fail
    go_ret
    refine ⟨ret_eq ?_, rfl⟩
    unfold Crc.stp
    rw [H.out]
    have e3 := u32_xor_nat (c / 2) 2197175160 (by omega) (by omega)
    rw [Int.natCast_ediv] at e3
    rw [Nat.mul_one]
    exact e3
set_option maxHeartbeats 400000 in
set_option maxRecDepth 100000 in
theorem refUpdate_any (w : World) (c : Nat) (hc : c < 4294967296) (A : Option Addr) (n cap : Nat) (xs : List UInt8) (B : Nat)
    (h : Rd w B 1 A n (byts xs)) (hn : n ≤ maxLen) :
    Calls Try.prog 51 #[.int .u32 (c : Nat), .slice A n cap] w fun e w' => e = .returned (.int .u32 (Crc.update c xs : Nat)) ∧ w = w' := by
  unfold maxLen at hn
  have hl := h.blen
  go_enter Try.func51, Try.ntmps51
  go_wp2_with fail
  go_loop [0, 5] (fun u i => ∃ k : Nat, k ≤ n ∧ i = .int .i64 k ∧ u = .int .u32 (Crc.run (c ^^^ 4294967295) (xs.take k) : Nat)) (fun _ i => n - (intOf i).toNat)
  case atStart => exact ⟨0, by omega, rfl, int_eq (u32_xor_nat c 4294967295 hc (by omega))⟩
  case round =>
    obtain ⟨k, hk, rfl, rfl⟩ := hrel
    have hr := Crc.run_lt (Crc.xor_lt hc (show 4294967295 < 4294967296 by omega)) (xs.take k)
    by_cases hlt : k < n
    · obtain ⟨b, o, hkl, rfl, hb, hcell⟩ := h.byte hlt
      have HS := Lib.hid (Crc.run_take (c := c ^^^ 4294967295) hkl)
      obtain ⟨r, hre⟩ : ∃ r, r = Crc.run (c ^^^ 4294967295) (xs.take k) := ⟨_, rfl⟩
      rw [← hre] at hr HS ⊢
      obtain ⟨x, hx⟩ : ∃ x, x = xs[k].toNat := ⟨_, rfl⟩
      have hx2 : x < 256 := by rw [hx]; exact Crc.byte_lt _
      rw [← hx] at hcell HS
      have HR := Lib.hid hr
      clear hre h hx hkl hl hc hr
      go_wp2_with fail
      go_loop [0, 6] (fun u i => ∃ m : Nat, m ≤ 8 ∧ i = .int .i64 m ∧ u = .int .u32 (Crc.bup m r x : Nat)) (fun _ i => 8 - (intOf i).toNat)
      case atStart => exact ⟨0, by omega, rfl, rfl⟩
      case round =>
        obtain ⟨m, hm, rfl, rfl⟩ := hrel
        by_cases hmt : m < 8
        · go_wp2_with fail
          have e : bits BinOp.xor IntKind.u32 (↑(Crc.bup m r x)) (↑x / 2 ^ m % 2) = ((Crc.bup m r x ^^^ (x / 2 ^ m % 2) : Nat) : Int) := by
            have := u32_xor_nat (Crc.bup m r x) (x / 2 ^ m % 2) (Crc.bup_lt HR.out x m) (by omega)
            rw [Int.natCast_emod, Int.natCast_ediv, Int.natCast_pow] at this
            exact this
          rw [e]
          refine (refStep_any w _ (Crc.xor_lt (Crc.bup_lt HR.out x m) (by omega))).mono ?_
          rintro e w1 ⟨rfl, rfl⟩
          go_wp2_with fail
          go_round
          case rel => exact ⟨m + 1, by omega, by go_num, rfl⟩
          case measure => simp [intOf]; omega
        · obtain rfl : m = 8 := by omega
          go_wp2_with fail
          go_round
          case rel => exact ⟨k + 1, by omega, by go_num, int_eq (by rw [HS.out, Crc.bup8 _ _ hx2])⟩
          case measure => simp [intOf]; omega
    · obtain rfl : k = n := by omega
      go_wp2_with fail
      go_ret
      refine ⟨ret_eq ?_, rfl⟩
      rw [List.take_of_length_le (by omega)] at hr ⊢
      exact u32_xor_nat _ 4294967295 hr (by omega)
theorem bytesE : ElemOK Try.prog 27 5 1 1 := ElemOK.mk_ (z := .int .u8 0) Try.underlying27 (by kernel_rfl) rfl (by omega)
theorem flatten_take_le {ls : List (List UInt8)} (k : Nat) : (ls.take k).flatten.length ≤ ls.flatten.length := by
  conv => rhs; rw [← List.take_append_drop k ls, List.flatten_append, List.length_append]
  omega
set_option maxHeartbeats 400000 in
set_option maxRecDepth 100000 in
theorem refSum_any (w : World) (A : Option Addr) (n cap : Nat) (ls : List (List UInt8)) (B : Nat) (hB : B ≤ w.heap.size)
    (h : RdRows w B A n ls) (hn : n ≤ maxLen) (hs : ls.flatten.length ≤ 140737488355328) :
    Calls Try.prog 45 #[.slice A n cap] w fun e w' => e = .returned (.int .u32 (Crc.update 0 ls.flatten : Nat)) ∧ Below w.heap.size w w' := by
  have hlen := h.1
  unfold maxLen at hn
  go_enter Try.func45, Try.ntmps45
  go_wp2_with fail
  go_loopw [3, 4] (fun v i wr => ∃ (k L : Nat) (D : Option Addr) (c : Nat), k ≤ n ∧ i = .int .i64 k ∧ v = .slice D L c ∧ (ls.take k).flatten.length = L ∧ wr.ownsRow w.heap.size 5 1 (.slice D L c) L (byts (ls.take k).flatten) ∧ Below w.heap.size w wr) (fun _ i _ => n - (intOf i).toNat)
  case atStart => exact ⟨0, 0, none, 0, by omega, rfl, rfl, rfl, World.ownsRow_nil _ _ _ _, Below.refl _ _⟩
  case round =>
    obtain ⟨k, L, D, c, hk, rfl, rfl, hL, hown, hb⟩ := hrel
    have hl := flatten_take_le (ls := ls) k
    rw [hL] at hl
    have HL := Lib.hid hL
    clear hL
    by_cases hlt : k < n
    · obtain ⟨b, o, A', m, c', rfl, hbB, hcell, hm1, hm2, hr⟩ := (h.below (hb.mono hB)).2 k hlt
      have hkl : k < ls.length := by omega
      have hf : (ls.take (k + 1)).flatten = (ls.take k).flatten ++ ls[k] := by
        rw [List.take_succ_eq_append_getElem hkl, List.flatten_append]; simp
      have hl1 := flatten_take_le (ls := ls) (k + 1)
      have hg : ls.getD k [] = ls[k] := by simp [hkl]
      rw [hg] at hr
      have hm : ls[k].length = m := hr.blen
      rw [hf, List.length_append, hm, HL.out] at hl1
      have HF := Lib.hid hf
      have HO := Lib.hid hown
      have HR := Lib.hid hr
      have HM := Lib.hid hm
      clear hf hown hr hm h hg hlen
      go_wp2_with (at_builtin; refine wpList_append_rd _ rfl (.tmp 11) (.tmp 15) _ rfl bytesE w.heap.size _ L _ rfl HO.out B A' m c' _ rfl HR.out (byts_one _) (by unfold maxLen; omega) (by omega) hb.size ?_; intro D' c2 w1 hown1 hb1 _ _)
      go_roundw
      case rel => exact ⟨k + 1, L + m, D', c2, by omega, by go_num, rfl, by rw [HF.out, List.length_append, HM.out, HL.out], by rw [HF.out, byts_append]; exact hown1, hb.trans hb1⟩
      case measure => simp [intOf]; omega
    · obtain rfl : k = n := by omega
      have hr : Rd wr wr.heap.size 1 D _ _ := Rd.of_own hown
      rw [List.take_of_length_le (by omega)] at hr
      have HR := Lib.hid hr
      clear hr hown
      go_wp2_with fail
      refine (refUpdate_any wr 0 (by omega) D L c _ _ HR.out (by unfold maxLen; omega)).mono ?_
      rintro e w1 ⟨rfl, rfl⟩
      go_wp2_with fail
      go_ret
      exact ⟨rfl, hb⟩
end Go.Proofs.Ytmobgamlednlhaa
