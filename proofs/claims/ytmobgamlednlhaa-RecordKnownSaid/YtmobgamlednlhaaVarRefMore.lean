/-
  Numbers in groups: what the document's further functions compute; and the chapter's examples.
-/
import Derived.Test.YtmobgamlednlhaaVarRefTake
namespace Go.Proofs.Ytmobgamlednlhaa
open Go.RowKit
set_option maxHeartbeats 1000000 in
set_option maxRecDepth 100000 in
theorem refTakeText_any (w : World) (A : Option Addr) (n cap : Nat) (b : List UInt8) (B : Nat) (hB : B ≤ w.heap.size) (h : Rd w B 1 A n (byts b)) (hc : n ≤ cap) (hm : n ≤ 100000000) (p : Int) (hp1 : -9223372036854775808 ≤ p) (hp2 : p ≤ 9223372036854775807) :
    Calls Try.prog 37 #[.slice A n cap, .int .i64 p] w fun e w' => e = .returned (.tuple #[.string ⟨(Var.ttext b p).1.toArray⟩, .int .i64 (Var.ttext b p).2.1, .int .i64 ((Var.ttext b p).2.2 : Nat)]) ∧ Below w.heap.size w w' := by
  have hl := h.blen
  have H := Lib.hid h
  clear h
  rcases Var.take_cases b p with ⟨v, nx, q, ht, rfl, hq, hnx, hv⟩ | ht | ht
  · by_cases hfit : n - nx < v
    · have HE : Hid (Var.ttext b q = ([], (q : Int), 10)) := by
        show _ = _
        unfold Var.ttext
        rw [ht, if_neg (by simp), if_pos (by simp only [Int.toNat_natCast]; omega)]
      have HT := Lib.hid ht
      have hd : decide ((n : Int) < (v : Int)) = true ∨ decide ((n : Int) < (v : Int)) = false ∧ decide ((n : Int) < (nx : Int) + (v : Int)) = true := by simp; omega
      have hnn : nx ≤ n := by omega
      clear ht hl
      go_enter Try.func37, Try.ntmps37
      go_wp2_with fail
      refine (refTake_any w A n cap b B hB H.out hm q hp1 hp2).mono ?_
      rintro e w1 ⟨rfl, hb⟩
      rw [HT.out]
      go_wp2_with fail
      all_goals
        go_ret3
        refine ⟨?_, hb⟩
        rw [HE.out]
        rfl
    · have HE : Hid (Var.ttext b q = ((b.take (nx + v)).drop nx, ((nx : Nat) : Int) + (v : Nat), 0)) := by
        show _ = _
        unfold Var.ttext
        rw [ht, if_neg (by simp), if_neg (by simp only [Int.toNat_natCast]; omega)]
        rfl
      have HT := Lib.hid ht
      have hd : decide ((n : Int) < (v : Int)) = false := by simp; omega
      have hd2 : decide ((n : Int) < (nx : Int) + (v : Int)) = false := by simp; omega
      have hnn : nx ≤ n := by omega
      have hs : nx + v ≤ n := by omega
      have hv9 : v ≤ 100000000 := by omega
      clear ht hl
      go_enter Try.func37, Try.ntmps37
      go_wp2_with fail
      refine (refTake_any w A n cap b B hB H.out hm q hp1 hp2).mono ?_
      rintro e w1 ⟨rfl, hb⟩
      have h2 := (H.out.below (hb.mono hB)).mid (i := nx) (j := nx + v) (cap := cap) (by omega) (by omega) hc
      have hcv := run_string_of (P := Try.prog) Try.underlying27 Try.underlying5 Try.underlying9 h2 (cap - nx)
      rw [show nx + v - nx = v by omega] at hcv
      have HCV := Lib.hid hcv
      clear h2 hcv
      rw [HT.out]
      have hcv := HCV.out
      go_wp2_with fail
      all_goals
        go_ret3
        refine ⟨?_, hb⟩
        rw [HE.out]
        rfl
  · have HE : Hid (Var.ttext b p = ([], p, 10)) := by
      show _ = _
      unfold Var.ttext
      rw [ht]
      rfl
    have HT := Lib.hid ht
    clear ht hl
    go_enter Try.func37, Try.ntmps37
    go_wp2_with fail
    refine (refTake_any w A n cap b B hB H.out hm p hp1 hp2).mono ?_
    rintro e w1 ⟨rfl, hb⟩
    rw [HT.out]
    go_wp2_with fail
    go_ret3
    refine ⟨?_, hb⟩
    rw [HE.out]
    rfl
  · have HE : Hid (Var.ttext b p = ([], p, 11)) := by
      show _ = _
      unfold Var.ttext
      rw [ht]
      rfl
    have HT := Lib.hid ht
    clear ht hl
    go_enter Try.func37, Try.ntmps37
    go_wp2_with fail
    refine (refTake_any w A n cap b B hB H.out hm p hp1 hp2).mono ?_
    rintro e w1 ⟨rfl, hb⟩
    rw [HT.out]
    go_wp2_with fail
    go_ret3
    refine ⟨?_, hb⟩
    rw [HE.out]
    rfl
set_option maxHeartbeats 1000000 in
set_option maxRecDepth 100000 in
theorem refTakeAll_any (w : World) (A : Option Addr) (n cap : Nat) (b : List UInt8) (B : Nat) (hB : B ≤ w.heap.size) (h : Rd w B 1 A n (byts b)) (hm : n ≤ 100000000) (p : Int) (hp1 : -9223372036854775808 ≤ p) (hp2 : p ≤ 9223372036854775807)
    (many : Int) (hm2 : many ≤ 100000) (mn : Nat) (hmn : many.toNat = mn) :
    Calls Try.prog 36 #[.slice A n cap, .int .i64 p, .int .i64 many] w fun e w' => ∃ D L c, e = .returned (.tuple #[.slice D L c, .int .i64 (Var.rall b mn p).2.1, .int .i64 ((Var.rall b mn p).2.2 : Nat)]) ∧
      w'.ownsRow w.heap.size 22 1 (.slice D L c) L (natv (Var.rall b mn p).1) ∧ Below w.heap.size w w' := by
  have hl := h.blen
  have H := Lib.hid h
  have HMN := Lib.hid hmn
  clear h hmn
  go_enter Try.func36, Try.ntmps36
  go_wp2_with fail
  go_loopw [9, 10, 11] (fun v x i wr => ∃ (k : Nat) (D : Option Addr) (c : Nat) (nx : Int) (acc : List Nat), k ≤ mn ∧ v = .slice D k c ∧ x = .int .i64 nx ∧ i = .int .i64 k ∧ -9223372036854775808 ≤ nx ∧ nx ≤ 9223372036854775807 ∧ Hid (acc.length = k ∧ Var.tall b mn p [] = Var.tall b (mn - k) nx acc ∧ wr.ownsRow w.heap.size 22 1 (.slice D k c) k (natv acc)) ∧ Below w.heap.size w wr) (fun _ _ i _ => mn - (intOf i).toNat)
  case atStart => exact ⟨0, none, 0, p, [], by omega, rfl, rfl, rfl, hp1, hp2, ⟨rfl, rfl, World.ownsRow_nil _ _ _ _⟩, Below.refl _ _⟩
  case round =>
    obtain ⟨k, D, c, nx, acc, hk, rfl, rfl, rfl, hn1, hn2, HR, hb⟩ := hrel
    have hk9 : k ≤ 100000 := by have := HMN.out; omega
    by_cases hlt : k < mn
    · have hd : decide ((k : Int) < many) = true := by have := HMN.out; simp; omega
      have hT := H.out.below (hb.mono hB)
      have HTT := Lib.hid hT
      clear hT
      rcases Var.take_cases b nx with ⟨v, ny, q, ht, rfl, hq, hny, hv⟩ | ht | ht
      · have HT := Lib.hid ht
        have hny2 : (ny : Int) ≤ 9223372036854775807 := by omega
        clear ht hl
        go_wp2_with fail
        refine (refTake_any wr A n cap b B (Nat.le_trans hB hb.size) HTT.out hm q hn1 hn2).mono ?_
        rintro e w1 ⟨rfl, hbr⟩
        have hb := Below.trans hb (hbr.mono hb.size)
        rw [HT.out]
        go_wp2_with (at_builtin; refine wpList_append_rd _ rfl (.tmp 32) (.tmp 34) _ rfl numsV w.heap.size _ k _ rfl ((own_ext HR.out.2.2 hbr).alloc _) (w1.heap.size + 1) (some ⟨w1.heap.size, 0, none⟩) 1 1 _ rfl (Rd.new1 w1 _ _) (by intro u hu; simp at hu; subst hu; rfl) (by unfold maxLen; omega) (by omega) (by have := hb.size; simp; omega) ?_; intro D2 c2 w2 ho2 hb2 _ _)
        have HO2 := Lib.hid ho2
        have hb3 : Below w.heap.size w w2 := (hb.alloc hb.size _).trans hb2
        clear ho2 hb2
        go_wp2_with fail
        go_roundw
        case rel =>
          obtain ⟨h1, h2, h3⟩ := HR.out
          refine ⟨k + 1, D2, c2, ny, acc ++ [v], by omega, rfl, rfl, by go_num, by omega, by omega, ⟨by simp [h1], ?_, ?_⟩, hb3⟩
          · rw [h2, show mn - k = (mn - (k + 1)) + 1 by omega, Var.tall, if_pos (by rw [HT.out]), HT.out]
          · rw [natv_append]; exact HO2.out
        case measure => simp [intOf]; omega
      · have HE : Hid (Var.rall b mn p = ([], p, 10)) := by
          have e1 : Var.tall b mn p [] = ([], 0, 10) := by
            rw [HR.out.2.1, show mn - k = (mn - (k + 1)) + 1 by omega, Var.tall, if_neg (by rw [ht]; simp), ht]
          show _ = _
          unfold Var.rall
          rw [e1]
          rfl
        have HT := Lib.hid ht
        clear ht hl
        go_wp2_with fail
        refine (refTake_any wr A n cap b B (Nat.le_trans hB hb.size) HTT.out hm nx hn1 hn2).mono ?_
        rintro e w1 ⟨rfl, hbr⟩
        have hb := Below.trans hb (hbr.mono hb.size)
        rw [HT.out]
        go_wp2_with fail
        go_ret3
        rw [HE.out]
        exact ⟨none, 0, 0, rfl, World.ownsRow_nil _ _ _ _, hb⟩
      · have HE : Hid (Var.rall b mn p = ([], p, 11)) := by
          have e1 : Var.tall b mn p [] = ([], 0, 11) := by
            rw [HR.out.2.1, show mn - k = (mn - (k + 1)) + 1 by omega, Var.tall, if_neg (by rw [ht]; simp), ht]
          show _ = _
          unfold Var.rall
          rw [e1]
          rfl
        have HT := Lib.hid ht
        clear ht hl
        go_wp2_with fail
        refine (refTake_any wr A n cap b B (Nat.le_trans hB hb.size) HTT.out hm nx hn1 hn2).mono ?_
        rintro e w1 ⟨rfl, hbr⟩
        have hb := Below.trans hb (hbr.mono hb.size)
        rw [HT.out]
        go_wp2_with fail
        go_ret3
        rw [HE.out]
        exact ⟨none, 0, 0, rfl, World.ownsRow_nil _ _ _ _, hb⟩
    · obtain rfl : k = mn := by omega
      have hd : decide ((k : Int) < many) = false := by have := HMN.out; simp; omega
      have HE : Hid (Var.rall b k p = (acc, nx, 0)) := by
        have e1 : Var.tall b k p [] = (acc, nx, 0) := by
          rw [HR.out.2.1, Nat.sub_self]
          rfl
        show _ = _
        unfold Var.rall
        rw [e1]
        rfl
      go_wp2_with fail
      go_ret3
      rw [HE.out]
      exact ⟨D, k, c, rfl, HR.out.2.2, hb⟩
end Go.Proofs.Ytmobgamlednlhaa
