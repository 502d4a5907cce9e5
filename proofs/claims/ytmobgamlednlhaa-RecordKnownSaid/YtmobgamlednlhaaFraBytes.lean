/-
  Bytes: slices.Equal, slices.Clone.
-/
import Derived.Test.YtmobgamlednlhaaFraRefs
import Derived.Lib.SliceRun
namespace Go.Proofs.Ytmobgamlednlhaa
open Go.RowKit
attribute [local go_sem] match_undef
theorem byts_nil (w : World) (a : Option Addr) (n c : Nat) : (binOp .eql 27 (.slice a n c) (.slice none 0 0)).run Try.prog w = .ok (.bool a.isNone) w := Lib.run_eql_slice_nil w _ _ a n c 0 0 Try.underlying27
attribute [local go_sem] byts_nil
theorem own_empty (w : World) (e : TypeId) (base : Nat) (hb : base ≤ w.heap.size) : (w.alloc (.cells #[] e)).ownsRow base e 1 (.slice (some ⟨w.heap.size, 0, none⟩) 0 0) 0 [] :=
  ⟨rfl, .inr ⟨w.heap.size, 0, #[], rfl, hb, heap_alloc_new w _, Nat.le_refl _, Nat.zero_le _, rfl, by first | rfl | simp | exact ⟨rfl, fun _ h => by cases h⟩⟩⟩

set_option maxRecDepth 100000 in
set_option maxHeartbeats 1000000 in
theorem equal_any (w : World) (A : Option Addr) (n cap : Nat) (xs : List UInt8) (A' : Option Addr) (n' cap' : Nat) (ys : List UInt8) (B B' : Nat) (hB : B ≤ w.heap.size) (hB' : B' ≤ w.heap.size) (h : Rd w B 1 A n (byts xs)) (h' : Rd w B' 1 A' n' (byts ys))
    (hn : n ≤ 100000000) (hn' : n' ≤ 100000000) (r : Bool) (hr : decide (xs = ys) = r) :
    Calls Try.prog 49 #[.slice A n cap, .slice A' n' cap'] w fun e w' => e = .returned (.bool r) ∧ Below w.heap.size w w' := by
  have hl := h.blen
  have hl' := h'.blen
  have HR := Lib.hid hr
  clear hr
  by_cases hne : n = n'
  · subst hne
    have H := Lib.hid h
    have H' := Lib.hid h'
    have HL := Lib.hid hl
    have HL' := Lib.hid hl'
    clear h h' hl hl'
    go_enter Try.func49, Try.ntmps49
    go_wp2_with fail
    go_loopw [13] (fun i wr => ∃ k : Nat, k ≤ n ∧ i = .int .i64 k ∧ Hid (xs.take k = ys.take k) ∧ Ext w wr) (fun i _ => n - (intOf i).toNat)
    case atStart => exact ⟨0, by omega, rfl, rfl, Below.refl _ _⟩
    case round =>
      obtain ⟨k, hk, rfl, HE, hx⟩ := hrel
      by_cases hlt : k < n
      · obtain ⟨b, o, hkl, rfl, hbB, hc⟩ := (H.out.below (hx.mono hB)).byte hlt
        obtain ⟨b', o', hkl', rfl, hbB', hc'⟩ := (H'.out.below (hx.mono hB')).byte hlt
        have hd : decide ((k : Int) < (n : Int)) = true := by simp; omega
        have hk1 : (0 : Int) ≤ (k : Int) := by omega
        have hk2 : (k : Int) < (n : Int) := by omega
        by_cases he : xs[k] = ys[k]
        · have HEk := Lib.hid he
          rw [← he] at hc'
          obtain ⟨x, hx'⟩ : ∃ x, x = xs[k].toNat := ⟨_, rfl⟩
          rw [← hx'] at hc hc'
          clear he hx'
          have hself : (((x : Nat) : Int) != (x : Int)) = false := by simp
          go_wp2_with fail
          go_quiet (fail)
          go_wp2_with fail
          go_roundw
          case rel =>
            refine ⟨k + 1, by omega, by go_num, ?_, Ext.trans hx ⟨rfl, rfl, rfl, Nat.le_refl _, fun _ _ => rfl⟩⟩
            show xs.take (k + 1) = ys.take (k + 1)
            rw [List.take_succ_eq_append_getElem hkl, List.take_succ_eq_append_getElem hkl', HE.out, HEk.out]
          case measure => simp [intOf]; omega
        · have hnx : (((xs[k].toNat : Nat) : Int) != ((ys[k].toNat : Nat) : Int)) = true := by
            rw [bne_iff_ne]
            intro h
            exact he (UInt8.toNat_inj.1 (by omega))
          have hf : decide (xs = ys) = false := by
            rw [decide_eq_false_iff_not]
            intro h
            subst h
            exact he rfl
          have HF := Lib.hid (show false = r from by rw [← HR.out]; exact hf.symm)
          obtain ⟨x, hx'⟩ : ∃ x, x = xs[k].toNat := ⟨_, rfl⟩
          obtain ⟨y, hy'⟩ : ∃ y, y = ys[k].toNat := ⟨_, rfl⟩
          rw [← hx', ← hy'] at hnx
          rw [← hx'] at hc
          rw [← hy'] at hc'
          clear hx' hy' he hf
          go_wp2_with fail
          go_quiet (fail)
          go_wp2_with fail
          go_ret
          exact ⟨by rw [← HF.out]; rfl, Ext.trans hx ⟨rfl, rfl, rfl, Nat.le_refl _, fun _ _ => rfl⟩⟩
      · obtain rfl : k = n := by omega
        go_wp2_with fail
        go_ret
        refine ⟨?_, hx⟩
        have h1 : xs = ys := by
          have := HE.out
          rw [List.take_of_length_le (by rw [HL.out]; omega), List.take_of_length_le (by rw [HL'.out]; omega)] at this
          exact this
        have h2 : r = true := by rw [← HR.out]; exact decide_eq_true h1
        rw [h2]
        rfl
  · have hnn : (((n : Nat) : Int) != ((n' : Nat) : Int)) = true := by rw [bne_iff_ne]; omega
    have hf : decide (xs = ys) = false := by
      rw [decide_eq_false_iff_not]
      intro h
      subst h
      omega
    have HF := Lib.hid (show false = r from by rw [← HR.out]; exact hf.symm)
    clear h h' hl hl' hne hf
    go_enter Try.func49, Try.ntmps49
    go_wp2_with fail
    go_ret
    exact ⟨by rw [← HF.out]; rfl, Below.refl _ _⟩
set_option maxRecDepth 100000 in
set_option maxHeartbeats 1000000 in
theorem bclone_any (w : World) (A : Option Addr) (n cap : Nat) (l : List UInt8) (B : Nat) (hB : B ≤ w.heap.size) (h : Rd w B 1 A n (byts l)) (hn : n ≤ 100000000) :
    Calls Try.prog 50 #[.slice A n cap] w (Fresh w.heap.size 5 1 n (byts l) w) := by
  have H := Lib.hid h
  clear h
  cases A with
  | none =>
    obtain rfl : n = 0 := by
      rcases Nat.eq_zero_or_pos n with h | h
      · exact h
      · obtain ⟨b, o, e, _⟩ := H.out.2 h
        cases e
    have hl : byts l = [] := List.eq_nil_of_length_eq_zero (by have := H.out.1; omega)
    have HL := Lib.hid hl
    clear hl
    go_enter Try.func50, Try.ntmps50
    go_wp2_with fail
    go_ret
    exact ⟨none, 0, rfl, by rw [HL.out]; exact World.ownsRow_nil _ _ _ _, Below.refl _ _⟩
  | some a =>
    go_enter Try.func50, Try.ntmps50
    go_wp2_with (at_builtin; refine wpList_append_rd _ rfl (.tmp 5) (.tmp 6) _ rfl bytesV w.heap.size _ 0 _ rfl (own_empty w 5 w.heap.size (Nat.le_refl _)) B (some a) n cap _ rfl (H.out.alloc hB _) (byts_one _) (by unfold maxLen; omega) (by omega) (by simp) ?_; intro D2 c2 w3 ho2 hb2 _ _)
    rw [Nat.zero_add, List.nil_append] at ho2
    have HO2 := Lib.hid ho2
    clear ho2
    have hb3 := (below1 w (.cells #[] 5)).trans hb2
    go_wp2_with fail
    go_ret
    exact ⟨D2, c2, rfl, HO2.out, hb3⟩

end Go.Proofs.Ytmobgamlednlhaa
