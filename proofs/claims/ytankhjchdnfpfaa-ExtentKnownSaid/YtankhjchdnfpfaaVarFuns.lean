/-
  Numbers in groups: what the program's and the document's functions compute; and the small functions on rows (the same? written over; an own copy).
-/
import Derived.Test.YtankhjchdnfpfaaProg
import Derived.Test.YtankhjchdnfpfaaVarPlain
import Derived.Test.YtankhjchdnfpfaaAppend
import Derived.BigQuiet
import Derived.Lib.AppendStr
import Derived.Test.YtankhjchdnfpfaaGrow
namespace Go.Proofs.Ytankhjchdnfpfaa
open Go.RowKit
theorem bytesV : ElemOK Try.prog 26 5 1 1 := ElemOK.mk_ (z := .int .u8 0) Try.underlying26 (by kernel_rfl) rfl (by omega)
theorem or_more (m : Nat) : bits BinOp.or IntKind.u8 ((m : Int) % 256) 128 = (((UInt8.ofNat (m % 128 + 128)).toNat : Nat) : Int) := by
  have h := u8_or_nat (m % 256) 128 (by omega) (by omega)
  rw [Int.natCast_emod] at h
  rw [UInt8.toNat_ofNat', Nat.mod_eq_of_lt (show m % 128 + 128 < 2 ^ 8 by omega), ← Var.low_or]
  exact h
/-- What a row of numbers is, written. -/
def puts (l : List UInt64) : List UInt8 := (l.map fun x => Var.put x.toNat).flatten
theorem puts_take {l : List UInt64} {k : Nat} (h : k < l.length) : puts (l.take (k + 1)) = puts (l.take k) ++ Var.put l[k].toNat := by
  unfold puts
  rw [List.take_succ_eq_append_getElem h, List.map_append, List.flatten_append]
  simp only [List.map_cons, List.map_nil, List.flatten_cons, List.flatten_nil, List.append_nil]
theorem puts_le : ∀ l : List UInt64, (puts l).length ≤ 10 * l.length
  | [] => by simp [puts]
  | x :: l => by
    have h1 := puts_le l
    have h2 := (Var.put_length x.toNat).2
    have e : puts (x :: l) = Var.put x.toNat ++ puts l := by simp [puts]
    rw [e, List.length_append, List.length_cons]
    omega
theorem makeV : (Try.prog.info? 5).map (fun i => (i.zero, i.size, i.bytes)) = some (some (.int .u8 0), 1, 1) := by kernel_rfl
set_option maxHeartbeats 400000 in
theorem own_any (w : World) (A : Option Addr) (n cap : Nat) (l : List UInt8) (B : Nat) (h : Rd w B 1 A n (byts l)) (hn : n ≤ 140737488351232) :
    Calls Try.prog 8 #[.slice A n cap] w (Fresh w.heap.size 5 1 l.length (byts l) w) := by
  have H := Lib.hid h
  clear h
  go_enter Try.func8, Try.ntmps8
  go_wp2_with (at_builtin; refine wpList_append_rd _ rfl (.tmp 4) (.tmp 5) _ rfl bytesV w.heap.size (.slice none 0 0) 0 [] rfl (World.ownsRow_nil _ _ _ _) B A n cap _ rfl H.out (byts_one _) (by unfold maxLen; omega) (by omega) (Nat.le_refl _) ?_; intro D2 c2 w2 ho2 hb2 _ _; simp only [Nat.zero_add, List.nil_append] at ho2)
  have HO2 := Lib.hid ho2
  clear ho2
  go_ret
  exact Fresh.of H.out.blen HO2.out hb2
set_option maxHeartbeats 400000 in
set_option maxRecDepth 100000 in
theorem same_any (w : World) (A : Option Addr) (n cap : Nat) (xs : List UInt8) (A' : Option Addr) (n' cap' : Nat) (ys : List UInt8) (B B' : Nat) (hB : B ≤ w.heap.size) (hB' : B' ≤ w.heap.size) (h : Rd w B 1 A n (byts xs)) (h' : Rd w B' 1 A' n' (byts ys))
    (hn : n ≤ 140737488351232) (hn' : n' ≤ 140737488351232) (r : Bool) (hr : decide (xs = ys) = r) :
    Calls Try.prog 23 #[.slice A n cap, .slice A' n' cap'] w fun e w' => e = .returned (.bool r) ∧ Below w.heap.size w w' := by
  have hl := h.blen
  have hl' := h'.blen
  have HR := Lib.hid hr
  clear hr
  by_cases hne : n = n'
  · subst hne
    have H := Lib.hid h
    have H' := Lib.hid h'
    have HL := Lib.hid hl
    have HL' := Lib.hid hl'
    clear h h' hl hl'
    go_enter Try.func23, Try.ntmps23
    go_wp2_with fail
    go_loopw [5] (fun i wr => ∃ k : Nat, k ≤ n ∧ i = .int .i64 k ∧ Hid (xs.take k = ys.take k) ∧ Ext w wr) (fun i _ => n - (intOf i).toNat)
    case atStart => exact ⟨0, by omega, rfl, rfl, Below.refl _ _⟩
    case round =>
      obtain ⟨k, hk, rfl, HE, hx⟩ := hrel
      by_cases hlt : k < n
      · obtain ⟨b, o, hkl, rfl, hbB, hc⟩ := (H.out.below (hx.mono hB)).byte hlt
        obtain ⟨b', o', hkl', rfl, hbB', hc'⟩ := (H'.out.below (hx.mono hB')).byte hlt
        have hd : decide ((k : Int) < (n : Int)) = true := by simp; omega
        have hk1 : (0 : Int) ≤ (k : Int) := by omega
        have hk2 : (k : Int) < (n : Int) := by omega
        by_cases he : xs[k] = ys[k]
        · have HEk := Lib.hid he
          rw [← he] at hc'
          obtain ⟨x, hx'⟩ : ∃ x, x = xs[k].toNat := ⟨_, rfl⟩
          rw [← hx'] at hc hc'
          clear he hx'
          have hself : (((x : Nat) : Int) != (x : Int)) = false := by simp
          go_wp2_with fail
          go_quiet (fail)
          go_wp2_with fail
          go_roundw
          case rel =>
            refine ⟨k + 1, by omega, by go_num, ?_, Ext.trans hx ⟨rfl, rfl, rfl, Nat.le_refl _, fun _ _ => rfl⟩⟩
            show xs.take (k + 1) = ys.take (k + 1)
            rw [List.take_succ_eq_append_getElem hkl, List.take_succ_eq_append_getElem hkl', HE.out, HEk.out]
          case measure => simp [intOf]; omega
        · have hnx : (((xs[k].toNat : Nat) : Int) != ((ys[k].toNat : Nat) : Int)) = true := by
            rw [bne_iff_ne]
            intro h
            exact he (UInt8.toNat_inj.1 (by omega))
          have hf : decide (xs = ys) = false := by
            rw [decide_eq_false_iff_not]
            intro h
            subst h
            exact he rfl
          have HF := Lib.hid (show false = r from by rw [← HR.out]; exact hf.symm)
          obtain ⟨x, hx'⟩ : ∃ x, x = xs[k].toNat := ⟨_, rfl⟩
          obtain ⟨y, hy'⟩ : ∃ y, y = ys[k].toNat := ⟨_, rfl⟩
          rw [← hx', ← hy'] at hnx
          rw [← hx'] at hc
          rw [← hy'] at hc'
          clear hx' hy' he hf
          go_wp2_with fail
          go_quiet (fail)
          go_wp2_with fail
          go_ret
          exact ⟨by rw [← HF.out]; rfl, Ext.trans hx ⟨rfl, rfl, rfl, Nat.le_refl _, fun _ _ => rfl⟩⟩
      · obtain rfl : k = n := by omega
        go_wp2_with fail
        go_ret
        refine ⟨?_, hx⟩
        have h1 : xs = ys := by
          have := HE.out
          rw [List.take_of_length_le (by rw [HL.out]; omega), List.take_of_length_le (by rw [HL'.out]; omega)] at this
          exact this
        have h2 : r = true := by rw [← HR.out]; exact decide_eq_true h1
        rw [h2]
        rfl
  · have hnn : (((n : Nat) : Int) != ((n' : Nat) : Int)) = true := by rw [bne_iff_ne]; omega
    have hf : decide (xs = ys) = false := by
      rw [decide_eq_false_iff_not]
      intro h
      subst h
      omega
    have HF := Lib.hid (show false = r from by rw [← HR.out]; exact hf.symm)
    clear h h' hl hl' hne hf
    go_enter Try.func23, Try.ntmps23
    go_wp2_with fail
    go_ret
    exact ⟨by rw [← HF.out]; rfl, Below.refl _ _⟩
set_option maxHeartbeats 400000 in
set_option maxRecDepth 100000 in
theorem spoil_any (w : World) (A : Option Addr) (n cap : Nat) (xs : List Value) (base : Nat) (e0 : TypeId) (h : w.ownsRow base e0 1 (.slice A n cap) n xs) (hn : n ≤ 100000000) :
    Calls Try.prog 11 #[.slice A n cap] w fun e w' => e = .returned (.tuple #[]) ∧ w.grownBy w' (Value.slice A n cap).ownBlock ∧ Below base w w' := by
  have H := Lib.hid h
  clear h
  go_enter Try.func11, Try.ntmps11
  go_wp2_with fail
  go_loopw [2] (fun i wr => ∃ (k : Nat), k ≤ n ∧ i = .int .i64 k ∧ w.grownBy wr (Value.slice A n cap).ownBlock ∧ Below base w wr ∧ Hid (∃ ys, wr.ownsRow base e0 1 (.slice A n cap) n ys)) (fun i _ => n - (intOf i).toNat)
  case atStart => exact ⟨0, by omega, rfl, World.grownBy.refl _ _, Below.refl _ _, ⟨xs, H.out⟩⟩
  case round =>
    obtain ⟨k, hk, rfl, hg, hb, HO⟩ := hrel
    by_cases hlt : k < n
    · obtain ⟨ys, ho⟩ := HO.out
      obtain ⟨g, cur, rfl, hgB, hw, htk⟩ := own_whole ho (by omega)
      have hcl : ∃ u, wr.cell? ⟨g, k, none⟩ = some u := by
        have hyl := ho.1
        refine ⟨ys[k]'(by omega), ?_⟩
        rw [hw.cell, ← List.getElem?_eq_getElem (by omega), ← htk]
        simp [hlt]
      obtain ⟨u, hu⟩ := hcl
      have hfr := hw.frozen k
      have hst := ho.stored k (.int .u8 165)
      have HS := Lib.hid hst
      have hd : decide ((k : Int) < (n : Int)) = true := by simp; omega
      have hg2 : w.grownBy (wr.setCell ⟨g, k, none⟩ (.int .u8 165)) (Value.slice (some ⟨g, 0, none⟩) n cap).ownBlock := by
        refine ⟨hg.os, hg.tape, hg.output, by simpa [World.setCell] using hg.size, fun i hi hne => ?_⟩
        rw [Below.heap_setCell _ _ _ _ (fun e => hne (by simp [Value.ownBlock, e]))]
        exact hg.block i hi hne
      have hb2 : Below base w (wr.setCell ⟨g, k, none⟩ (.int .u8 165)) := hb.setCell hgB _
      clear ho hw htk hst hg hb HO H
      go_wp2_with fail
      go_roundw
      case rel => exact ⟨k + 1, by omega, by go_num, hg2, hb2, ⟨_, HS.out.1⟩⟩
      case measure => simp [intOf]; omega
    · obtain rfl : k = n := by omega
      go_wp2_with fail
      go_end0
      exact ⟨rfl, hg, hb⟩
end Go.Proofs.Ytankhjchdnfpfaa
