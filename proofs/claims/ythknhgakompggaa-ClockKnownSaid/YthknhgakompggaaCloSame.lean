/-
  Clocks: two rows of numbers compared.
-/
import Derived.Test.YthknhgakompggaaCloFuns
import Derived.BigQuiet
namespace Go.Proofs.Ythknhgakompggaa
open Go.RowKit
def natv (l : List Nat) : List Value := l.map fun x => .int .u64 ((x : Nat) : Int)
theorem natv_length (xs : List Nat) : (natv xs).length = xs.length := List.length_map _
theorem natv_get {xs : List Nat} {k : Nat} (h : k < xs.length) : (natv xs)[k]? = some (.int .u64 ((xs[k] : Nat) : Int)) := by
  unfold natv
  rw [List.getElem?_map, List.getElem?_eq_getElem h]
  rfl
theorem Rd.natn {w : World} {B n : Nat} {A : Option Addr} {l : List Nat} (h : Rd w B 1 A n (natv l)) : l.length = n := by have := h.1; rw [natv_length] at this; omega
theorem Rd.nat {w : World} {B n : Nat} {A : Option Addr} {l : List Nat} {k : Nat} (h : Rd w B 1 A n (natv l)) (hk : k < n) : ∃ b o, ∃ hl : k < l.length, A = some ⟨b, o, none⟩ ∧ b < B ∧ w.cell? ⟨b, o + k, none⟩ = some (.int .u64 ((l[k] : Nat) : Int)) := by
  have hl : k < l.length := by have := h.1; rw [natv_length] at this; omega
  obtain ⟨b, o, u, e, hb, hu, hc⟩ := h.at_ hk
  rw [natv_get hl] at hu
  cases hu
  exact ⟨b, o, hl, e, hb, hc⟩
set_option maxHeartbeats 400000 in
set_option maxRecDepth 100000 in
theorem clockSame_nat (w : World) (A : Option Addr) (n cap : Nat) (xs : List Nat) (A' : Option Addr) (n' cap' : Nat) (ys : List Nat) (B B' : Nat) (hB : B ≤ w.heap.size) (hB' : B' ≤ w.heap.size) (h : Rd w B 1 A n (natv xs)) (h' : Rd w B' 1 A' n' (natv ys))
    (hn : n ≤ 100000000) (hn' : n' ≤ 100000000) (r : Bool) (hr : decide (xs = ys) = r) :
    Calls Try.prog 40 #[.slice A n cap, .slice A' n' cap'] w fun e w' => e = .returned (.bool r) ∧ Below w.heap.size w w' := by
  have hl := h.natn
  have hl' := h'.natn
  have HR := Lib.hid hr
  clear hr
  by_cases hne : n = n'
  · subst hne
    have H := Lib.hid h
    have H' := Lib.hid h'
    have HL := Lib.hid hl
    have HL' := Lib.hid hl'
    clear h h' hl hl'
    go_enter Try.func40, Try.ntmps40
    go_wp2_with fail
    go_loopw [5] (fun i wr => ∃ k : Nat, k ≤ n ∧ i = .int .i64 k ∧ Hid (xs.take k = ys.take k) ∧ Ext w wr) (fun i _ => n - (intOf i).toNat)
    case atStart => exact ⟨0, by omega, rfl, rfl, Below.refl _ _⟩
    case round =>
      obtain ⟨k, hk, rfl, HE, hx⟩ := hrel
      by_cases hlt : k < n
      · obtain ⟨b, o, hkl, rfl, hbB, hc⟩ := (H.out.below (hx.mono hB)).nat hlt
        obtain ⟨b', o', hkl', rfl, hbB', hc'⟩ := (H'.out.below (hx.mono hB')).nat hlt
        have hd : decide ((k : Int) < (n : Int)) = true := by simp; omega
        have hk1 : (0 : Int) ≤ (k : Int) := by omega
        have hk2 : (k : Int) < (n : Int) := by omega
        by_cases he : xs[k] = ys[k]
        · have HEk := Lib.hid he
          rw [← he] at hc'
          obtain ⟨x, hx'⟩ : ∃ x, x = xs[k] := ⟨_, rfl⟩
          rw [← hx'] at hc hc'
          clear he hx'
          have hself : (((x : Nat) : Int) != (x : Int)) = false := by simp
          go_wp2_with fail
          go_quiet (fail)
          go_wp2_with fail
          go_roundw
          case rel =>
            refine ⟨k + 1, by omega, by go_num, ?_, Ext.trans hx ⟨rfl, rfl, rfl, Nat.le_refl _, fun _ _ => rfl⟩⟩
            show xs.take (k + 1) = ys.take (k + 1)
            rw [List.take_succ_eq_append_getElem hkl, List.take_succ_eq_append_getElem hkl', HE.out, HEk.out]
          case measure => simp [intOf]; omega
        · have hnx : (((xs[k] : Nat) : Int) != ((ys[k] : Nat) : Int)) = true := by
            rw [bne_iff_ne]
            intro h
            exact he (by omega)
          have hf : decide (xs = ys) = false := by
            rw [decide_eq_false_iff_not]
            intro h
            subst h
            exact he rfl
          have HF := Lib.hid (show false = r from by rw [← HR.out]; exact hf.symm)
          obtain ⟨x, hx'⟩ : ∃ x, x = xs[k] := ⟨_, rfl⟩
          obtain ⟨y, hy'⟩ : ∃ y, y = ys[k] := ⟨_, rfl⟩
          rw [← hx', ← hy'] at hnx
          rw [← hx'] at hc
          rw [← hy'] at hc'
          clear hx' hy' he hf
          go_wp2_with fail
          go_quiet (fail)
          go_wp2_with fail
          go_ret
          exact ⟨by rw [← HF.out]; rfl, Ext.trans hx ⟨rfl, rfl, rfl, Nat.le_refl _, fun _ _ => rfl⟩⟩
      · obtain rfl : k = n := by omega
        go_wp2_with fail
        go_ret
        refine ⟨?_, hx⟩
        have h1 : xs = ys := by
          have := HE.out
          rw [List.take_of_length_le (by rw [HL.out]; omega), List.take_of_length_le (by rw [HL'.out]; omega)] at this
          exact this
        have h2 : r = true := by rw [← HR.out]; exact decide_eq_true h1
        rw [h2]
        rfl
  · have hnn : (((n : Nat) : Int) != ((n' : Nat) : Int)) = true := by rw [bne_iff_ne]; omega
    have hf : decide (xs = ys) = false := by
      rw [decide_eq_false_iff_not]
      intro h
      subst h
      omega
    have HF := Lib.hid (show false = r from by rw [← HR.out]; exact hf.symm)
    clear h h' hl hl' hne hf
    go_enter Try.func40, Try.ntmps40
    go_wp2_with fail
    go_ret
    exact ⟨by rw [← HF.out]; rfl, Below.refl _ _⟩
theorem nums_natv (l : List UInt64) : nums l = natv (l.map UInt64.toNat) := by simp [nums, natv]
theorem map_toNat_inj {xs ys : List UInt64} (h : xs.map UInt64.toNat = ys.map UInt64.toNat) : xs = ys := by
  refine (List.map_inj_right ?_).1 h
  intro a b hab
  exact UInt64.toNat_inj.1 hab
theorem clockSame_any (w : World) (A : Option Addr) (n cap : Nat) (xs : List UInt64) (A' : Option Addr) (n' cap' : Nat) (B B' : Nat) (hB : B ≤ w.heap.size) (hB' : B' ≤ w.heap.size) (h : Rd w B 1 A n (nums xs)) (h' : Rd w B' 1 A' n' (nums xs)) (hn : n ≤ 1000000) (hn' : n' ≤ 1000000) :
    Calls Try.prog 40 #[.slice A n cap, .slice A' n' cap'] w fun e w' => e = .returned (.bool true) ∧ Below w.heap.size w w' := by
  rw [nums_natv] at h h'
  exact clockSame_nat w A n cap _ A' n' cap' _ B B' hB hB' h h' (by omega) (by omega) true (by simp)
end Go.Proofs.Ythknhgakompggaa
