/-
  Numbers in groups: what the program's and the document's functions compute; and the small functions on rows (the same? written over; an own copy).
-/
import Derived.Test.YtmobgamlednlhaaProg
import Derived.Test.YtmobgamlednlhaaVarPlain
import Derived.Test.YtmobgamlednlhaaAppend
import Derived.BigQuiet
import Derived.Lib.AppendStr
import Derived.Test.YtmobgamlednlhaaGrow
namespace Go.Proofs.Ytmobgamlednlhaa
open Go.RowKit
theorem bytesV : ElemOK Try.prog 27 5 1 1 := ElemOK.mk_ (z := .int .u8 0) Try.underlying27 (by kernel_rfl) rfl (by omega)
theorem or_more (m : Nat) : bits BinOp.or IntKind.u8 ((m : Int) % 256) 128 = (((UInt8.ofNat (m % 128 + 128)).toNat : Nat) : Int) := by
  have h := u8_or_nat (m % 256) 128 (by omega) (by omega)
  rw [Int.natCast_emod] at h
  rw [UInt8.toNat_ofNat', Nat.mod_eq_of_lt (show m % 128 + 128 < 2 ^ 8 by omega), ← Var.low_or]
  exact h
set_option maxHeartbeats 400000 in
set_option maxRecDepth 100000 in
theorem put_any (w : World) (n : Nat) (hn : n < 18446744073709551616) :
    Calls Try.prog 52 #[.int .u64 (n : Nat)] w (Fresh w.heap.size 5 1 (Var.put n).length (byts (Var.put n)) w) := by
  have HN := Lib.hid hn
  clear hn
  go_enter Try.func52, Try.ntmps52
  go_wp2_with fail
  go_loopw [0, 3] (fun x v wr => ∃ (m L : Nat) (acc : List UInt8) (D : Option Addr) (c : Nat), x = .int .u64 m ∧ v = .slice D L c ∧ Hid (m ≤ n ∧ acc.length = L ∧ Var.put n = acc ++ Var.put m ∧ wr.ownsRow w.heap.size 5 1 (.slice D L c) L (byts acc)) ∧ Below w.heap.size w wr) (fun x _ _ => (intOf x).toNat)
  case atStart => exact ⟨n, 0, [], none, 0, rfl, rfl, ⟨Nat.le_refl _, rfl, rfl, World.ownsRow_nil _ _ _ _⟩, Below.refl _ _⟩
  case round =>
    obtain ⟨m, L, acc, D, c, rfl, rfl, HR, hb⟩ := hrel
    have hL : L ≤ 10 := by
      obtain ⟨_, h2, h3, _⟩ := HR.out
      have h4 := (Var.put_length n).2
      rw [h3, List.length_append, h2] at h4
      omega
    by_cases hm : 128 ≤ m
    · have HE := Lib.hid (or_more m)
      go_wp2_with (at_builtin; refine wpList_append_rd _ rfl (.tmp 8) (.tmp 12) _ rfl bytesV w.heap.size _ L _ rfl (HR.out.2.2.2.alloc _) (wr.heap.size + 1) (some ⟨wr.heap.size, 0, none⟩) 1 1 _ rfl (Rd.new1 wr _ _) (by intro u hu; simp at hu; subst hu; rfl) (by unfold maxLen; omega) (by omega) (by have := hb.size; simp; omega) ?_; intro D2 c2 w2 ho2 hb2 _ _)
      have hb3 := (hb.alloc hb.size (.cells #[.int .u8 (bits BinOp.or IntKind.u8 ((m : Int) % 256) 128)] 5)).trans hb2
      rw [HE.out] at ho2
      have HO := Lib.hid ho2
      clear ho2 hb2
      go_wp2_with fail
      go_roundw
      case rel =>
        obtain ⟨h1, h2, h3, h4⟩ := HR.out
        have hml : m < 18446744073709551616 := by have := HN.out; omega
        refine ⟨m / 128, L + 1, acc ++ [UInt8.ofNat (m % 128 + 128)], D2, c2, by go_num, rfl, ⟨by omega, by simp [h2], ?_, ?_⟩, hb3⟩
        · rw [h3, Var.put_big hm hml, List.append_assoc]; rfl
        · rw [byts_append]; exact HO.out
      case measure => simp [intOf]; omega
    · have hmod : Value.int .u8 (m : Int) = Value.int .u8 (((UInt8.ofNat m).toNat : Nat) : Int) := int_eq (by rw [UInt8.toNat_ofNat']; omega)
      have HE := Lib.hid hmod
      clear hmod
      go_wp2_with (at_builtin; refine wpList_append_rd _ rfl (.tmp 14) (.tmp 17) _ rfl bytesV w.heap.size _ L _ rfl (HR.out.2.2.2.alloc _) (wr.heap.size + 1) (some ⟨wr.heap.size, 0, none⟩) 1 1 _ rfl (Rd.new1 wr _ _) (by intro u hu; simp at hu; subst hu; rfl) (by unfold maxLen; omega) (by omega) (by have := hb.size; simp; omega) ?_; intro D2 c2 w2 ho2 hb2 _ _)
      rw [HE.out] at ho2
      have HO := Lib.hid ho2
      clear ho2
      go_ret
      obtain ⟨h1, h2, h3, h4⟩ := HR.out
      have hp : Var.put n = acc ++ [UInt8.ofNat m] := by rw [h3, Var.put_small (by omega)]
      exact Fresh.of (by rw [hp]; simp [h2]) (by rw [hp, byts_append]; exact HO.out) ((hb.alloc hb.size _).trans hb2)
/-- What a row of numbers is, written. -/
def puts (l : List UInt64) : List UInt8 := (l.map fun x => Var.put x.toNat).flatten
theorem puts_take {l : List UInt64} {k : Nat} (h : k < l.length) : puts (l.take (k + 1)) = puts (l.take k) ++ Var.put l[k].toNat := by
  unfold puts
  rw [List.take_succ_eq_append_getElem h, List.map_append, List.flatten_append]
  simp only [List.map_cons, List.map_nil, List.flatten_cons, List.flatten_nil, List.append_nil]
theorem puts_le : ∀ l : List UInt64, (puts l).length ≤ 10 * l.length
  | [] => by simp [puts]
  | x :: l => by
    have h1 := puts_le l
    have h2 := (Var.put_length x.toNat).2
    have e : puts (x :: l) = Var.put x.toNat ++ puts l := by simp [puts]
    rw [e, List.length_append, List.length_cons]
    omega
theorem makeV : (Try.prog.info? 5).map (fun i => (i.zero, i.size, i.bytes)) = some (some (.int .u8 0), 1, 1) := by kernel_rfl
set_option maxHeartbeats 400000 in
theorem text_any (w : World) (s : ByteArray) (hs : s.size ≤ 100000) :
    Calls Try.prog 75 #[.string s] w (Fresh w.heap.size 5 1 (Var.put s.size ++ s.data.toList).length (byts (Var.put s.size ++ s.data.toList)) w) := by
  obtain ⟨i0, hi, hz0, hz1, hz2⟩ := info_parts makeV
  go_enter Try.func75, Try.ntmps75
  go_wp2_with fail
  refine (put_any w s.size (by omega)).mono ?_
  rintro e w1 ⟨D1, c1, rfl, ho1, hb1⟩
  have hp := (Var.put_length s.size).2
  obtain ⟨M, hM⟩ : ∃ M, M = (Var.put s.size).length := ⟨_, rfl⟩
  rw [← hM] at ho1 hp ⊢
  have HM := Lib.hid hM
  have HO1 := Lib.hid ho1
  clear ho1 hM
  go_wp2_with (at_builtin; refine Lib.wpList_append_own_string _ rfl (.tmp 6) (.tmp 7) _ _ rfl w.heap.size 5 i0 Try.underlying27 Try.underlying9 hi hz0 hz1 hz2 _ M _ rfl HO1.out s rfl (by unfold maxLen; omega) (by omega) hb1.size ?_; intro v2 w2 ho2 hg2 _)
  obtain ⟨D2, c2, rfl⟩ := own_form w2 ho2
  have hb2 : Below w.heap.size w1 w2 := (Below.refl _ _).grown hg2 hb1.size (fun k hk => (HO1.out.lt k hk).1)
  have HO2 := Lib.hid ho2
  clear ho2 hg2
  go_wp2_with fail
  go_ret
  exact Fresh.of (by rw [List.length_append, HM.out]; rfl) (by rw [byts_append]; exact HO2.out) (hb1.trans hb2)
set_option maxHeartbeats 400000 in
set_option maxRecDepth 100000 in
theorem same_any (w : World) (A : Option Addr) (n cap : Nat) (xs : List UInt8) (A' : Option Addr) (n' cap' : Nat) (ys : List UInt8) (B B' : Nat) (hB : B ≤ w.heap.size) (hB' : B' ≤ w.heap.size) (h : Rd w B 1 A n (byts xs)) (h' : Rd w B' 1 A' n' (byts ys))
    (hn : n ≤ 140737488351232) (hn' : n' ≤ 140737488351232) (r : Bool) (hr : decide (xs = ys) = r) :
    Calls Try.prog 13 #[.slice A n cap, .slice A' n' cap'] w fun e w' => e = .returned (.bool r) ∧ Below w.heap.size w w' := by
  have hl := h.blen
  have hl' := h'.blen
  have HR := Lib.hid hr
  clear hr
  by_cases hne : n = n'
  · subst hne
    have H := Lib.hid h
    have H' := Lib.hid h'
    have HL := Lib.hid hl
    have HL' := Lib.hid hl'
    clear h h' hl hl'
    go_enter Try.func13, Try.ntmps13
    go_wp2_with fail
    go_loopw [5] (fun i wr => ∃ k : Nat, k ≤ n ∧ i = .int .i64 k ∧ Hid (xs.take k = ys.take k) ∧ Ext w wr) (fun i _ => n - (intOf i).toNat)
    case atStart => exact ⟨0, by omega, rfl, rfl, Below.refl _ _⟩
    case round =>
      obtain ⟨k, hk, rfl, HE, hx⟩ := hrel
      by_cases hlt : k < n
      · obtain ⟨b, o, hkl, rfl, hbB, hc⟩ := (H.out.below (hx.mono hB)).byte hlt
        obtain ⟨b', o', hkl', rfl, hbB', hc'⟩ := (H'.out.below (hx.mono hB')).byte hlt
        have hd : decide ((k : Int) < (n : Int)) = true := by simp; omega
        have hk1 : (0 : Int) ≤ (k : Int) := by omega
        have hk2 : (k : Int) < (n : Int) := by omega
        by_cases he : xs[k] = ys[k]
        · have HEk := Lib.hid he
          rw [← he] at hc'
          obtain ⟨x, hx'⟩ : ∃ x, x = xs[k].toNat := ⟨_, rfl⟩
          rw [← hx'] at hc hc'
          clear he hx'
          have hself : (((x : Nat) : Int) != (x : Int)) = false := by simp
          go_wp2_with fail
          go_quiet (fail)
          go_wp2_with fail
          go_roundw
          case rel =>
            refine ⟨k + 1, by omega, by go_num, ?_, Ext.trans hx ⟨rfl, rfl, rfl, Nat.le_refl _, fun _ _ => rfl⟩⟩
            show xs.take (k + 1) = ys.take (k + 1)
            rw [List.take_succ_eq_append_getElem hkl, List.take_succ_eq_append_getElem hkl', HE.out, HEk.out]
          case measure => simp [intOf]; omega
        · have hnx : (((xs[k].toNat : Nat) : Int) != ((ys[k].toNat : Nat) : Int)) = true := by
            rw [bne_iff_ne]
            intro h
            exact he (UInt8.toNat_inj.1 (by omega))
          have hf : decide (xs = ys) = false := by
            rw [decide_eq_false_iff_not]
            intro h
            subst h
            exact he rfl
          have HF := Lib.hid (show false = r from by rw [← HR.out]; exact hf.symm)
          obtain ⟨x, hx'⟩ : ∃ x, x = xs[k].toNat := ⟨_, rfl⟩
          obtain ⟨y, hy'⟩ : ∃ y, y = ys[k].toNat := ⟨_, rfl⟩
          rw [← hx', ← hy'] at hnx
          rw [← hx'] at hc
          rw [← hy'] at hc'
          clear hx' hy' he hf
          go_wp2_with fail
          go_quiet (fail)
          go_wp2_with fail
          go_ret
          exact ⟨by rw [← HF.out]; rfl, Ext.trans hx ⟨rfl, rfl, rfl, Nat.le_refl _, fun _ _ => rfl⟩⟩
      · obtain rfl : k = n := by omega
        go_wp2_with fail
        go_ret
        refine ⟨?_, hx⟩
        have h1 : xs = ys := by
          have := HE.out
          rw [List.take_of_length_le (by rw [HL.out]; omega), List.take_of_length_le (by rw [HL'.out]; omega)] at this
          exact this
        have h2 : r = true := by rw [← HR.out]; exact decide_eq_true h1
        rw [h2]
        rfl
  · have hnn : (((n : Nat) : Int) != ((n' : Nat) : Int)) = true := by rw [bne_iff_ne]; omega
    have hf : decide (xs = ys) = false := by
      rw [decide_eq_false_iff_not]
      intro h
      subst h
      omega
    have HF := Lib.hid (show false = r from by rw [← HR.out]; exact hf.symm)
    clear h h' hl hl' hne hf
    go_enter Try.func13, Try.ntmps13
    go_wp2_with fail
    go_ret
    exact ⟨by rw [← HF.out]; rfl, Below.refl _ _⟩
end Go.Proofs.Ytmobgamlednlhaa
