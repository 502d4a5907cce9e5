/-
  Files in parts: the document's Bytes, Volatile.
-/
import Derived.Test.YtankhjchdnfpfaaExtRefs
namespace Go.Proofs.Ytankhjchdnfpfaa
open Go.RowKit
attribute [local go_sem] match_undef
set_option maxRecDepth 100000 in
set_option maxHeartbeats 8000000 in
theorem rvol_any (w : World) (A : Option Addr) (N cap : Nat) (fs : List Pa) (B : Nat) (hB : B ≤ w.heap.size) (h : RdPa w B A N fs) (hN : N ≤ 1000000) :
    Calls Try.prog 32 #[.agg #[.slice A N cap]] w fun en w' => en = .returned (.int .i64 (Exn.vol fs : Nat)) ∧ Below w.heap.size w w' := by
  have HL := Lib.hid h.1
  have hba := below1 w (.cells #[.slice A N cap] 34)
  have HBA := Lib.hid hba
  have H := Lib.hid (h.below (hba.mono hB))
  have HW := Lib.hid (Whole.new w 34 #[.slice A N cap])
  clear h hB hba
  go_enter Try.func32, Try.ntmps32
  go_wp2_with fail
  generalize w.alloc (.cells #[.slice A N cap] 34) = W1 at HBA H HW ⊢
  have qb := HW.out.cell 0
  simp at qb
  go_loopw [3, 4] (fun v i wr => ∃ (j k : Nat), j ≤ N ∧ k ≤ j ∧ v = .int .i64 k ∧ i = .int .i64 j ∧ Hid (Exn.vol (fs.take j) = k) ∧ wr = W1) (fun _ i _ => N - (intOf i).toNat)
  case atStart => exact ⟨0, 0, by omega, by omega, rfl, rfl, rfl, rfl⟩
  case round =>
    obtain ⟨j, k, hj, hkj, rfl, rfl, HV, rfl⟩ := hrel
    by_cases hlt : j < N
    · have hjl : j < fs.length := by have := HL.out; omega
      obtain ⟨b1, o1, A1, c1, rfl, hb1, hp1, hq1, _, _, _⟩ := H.out.2 j hjl
      have hd : decide ((j : Int) < (N : Int)) = true := by simp; omega
      have d1 : (0 : Int) ≤ (j : Int) := by omega
      have d2 : (j : Int) < (N : Int) := by omega
      have htk := Exn.vol_take hjl
      rw [HV.out] at htk
      obtain ⟨p, hp⟩ : ∃ p, fs[j] = p := ⟨_, rfl⟩
      rw [hp] at hp1 hq1 htk
      obtain ⟨l, d⟩ := p
      simp only at hp1 hq1 htk
      obtain ⟨m, hm⟩ : ∃ m, l.length = m := ⟨_, rfl⟩
      unfold Exn.some_ at htk
      simp only [hm] at htk hp1
      have HTK := Lib.hid htk
      clear hp hm hb1 htk
      by_cases h0 : m = 0
      · subst h0
        have H2 := Lib.hid (show Exn.vol (fs.take (j + 1)) = k from by rw [HTK.out]; simp)
        go_wp2_with fail
        go_roundw
        case rel => exact ⟨j + 1, k, by omega, by omega, rfl, by go_num, H2, by first | rfl | trivial⟩
        case measure => simp [intOf] <;> omega
      · have t0 : 0 < m := by omega
        cases d with
        | true =>
          have H2 := Lib.hid (show Exn.vol (fs.take (j + 1)) = k from by rw [HTK.out]; rfl)
          go_wp2_with fail
          go_roundw
          case rel => exact ⟨j + 1, k, by omega, by omega, rfl, by go_num, H2, by first | rfl | trivial⟩
          case measure => simp [intOf] <;> omega
        | false =>
          have H2 := Lib.hid (show Exn.vol (fs.take (j + 1)) = k + 1 from by rw [HTK.out]; simp [t0])
          go_wp2_with fail
          go_roundw
          case rel => exact ⟨j + 1, k + 1, by omega, by omega, by go_num, by go_num, H2, by first | rfl | trivial⟩
          case measure => simp [intOf] <;> omega
    · obtain rfl : j = N := by omega
      go_wp2_with fail
      go_ret
      have ht : fs.take j = fs := List.take_of_length_le (by rw [HL.out]; omega)
      have hv := HV.out
      rw [ht] at hv
      rw [hv]
      exact ⟨rfl, HBA.out⟩
theorem byte_ne : 5 ≠ 34 := by decide
theorem Whole.kept' {w w' : World} {g base s n : Nat} {t e : TypeId} {v : Value} {cs : Array Value} {xs : List Value} (h : Whole w g t cs) (hg : w.grownBy w' v.ownBlock) (hu : w.ownsRow base e s v n xs) (hne : e ≠ t) : Whole w' g t cs := Whole.kept h hg hu hne
set_option maxRecDepth 100000 in
set_option maxHeartbeats 8000000 in
theorem rbytes_any (w : World) (A : Option Addr) (N cap : Nat) (fs : List Pa) (B : Nat) (hB : B ≤ w.heap.size) (h : RdPa w B A N fs) (hN : N ≤ 1000000) (hf : (Exn.bytes fs).length ≤ 1000000000) :
    Calls Try.prog 31 #[.agg #[.slice A N cap]] w (Fresh w.heap.size 5 1 (Exn.bytes fs).length (byts (Exn.bytes fs)) w) := by
  have HL := Lib.hid h.1
  have HBA := Lib.hid (below1 w (.cells #[.slice A N cap] 34))
  have H := Lib.hid h
  have HB := Lib.hid hB
  have HW := Lib.hid (Whole.new w 34 #[.slice A N cap])
  clear h hB
  go_enter Try.func31, Try.ntmps31
  go_wp2_with fail
  go_loopw [3, 4, 5] (fun v i _ wr => ∃ (j : Nat) (D : Option Addr) (c L : Nat), j ≤ N ∧ v = .slice D L c ∧ i = .int .i64 j ∧ Hid (L = (Exn.bytes (fs.take j)).length) ∧ Hid (wr.ownsRow w.heap.size 5 1 (.slice D L c) L (byts (Exn.bytes (fs.take j)))) ∧ Hid (Whole wr w.heap.size 34 #[.slice A N cap]) ∧ Below w.heap.size w wr) (fun _ i _ _ => N - (intOf i).toNat)
  case atStart => exact ⟨0, none, 0, 0, by omega, rfl, rfl, rfl, World.ownsRow_nil _ _ _ _, HW.out, HBA.out⟩
  case round =>
    obtain ⟨j, D, c, L, hj, rfl, rfl, HLL, HO, HWB, hb⟩ := hrel
    have qb := HWB.out.cell 0
    simp at qb
    by_cases hlt : j < N
    · have hjl : j < fs.length := by have := HL.out; omega
      have hd : decide ((j : Int) < (N : Int)) = true := by simp; omega
      have d1 : (0 : Int) ≤ (j : Int) := by omega
      have d2 : (j : Int) < (N : Int) := by omega
      have HTK := Lib.hid (Exn.bytes_take hjl)
      have hle := Exn.bytes_le fs (j + 1)
      rw [HTK.out, List.length_append, ← HLL.out] at hle
      have HRD := Lib.hid (H.out.2 j hjl)
      obtain ⟨p, hp⟩ : ∃ p, fs[j] = p := ⟨_, rfl⟩
      rw [hp] at hle HTK HRD
      obtain ⟨l, d⟩ := p
      simp only at hle HTK HRD
      obtain ⟨m, hm⟩ : ∃ m, l.length = m := ⟨_, rfl⟩
      rw [hm] at hle HRD
      have HM := Lib.hid hm
      clear hp hm
      obtain ⟨b1, o1, A1, c1, rfl, hb1, hp1, hq1, _, _, hr1⟩ := HRD.out
      have HP1 := Lib.hid hp1
      have HR1 := Lib.hid hr1
      have L1 := Lib.hid (Nat.lt_of_lt_of_le hb1 HB.out)
      have HSTART := Lib.hid hb
      clear hp1 hq1 hr1 HRD hb
      go_wp2_with fail
      clear qb
      go_loopw [3, 5] (fun v i wx => ∃ (k : Nat) (D : Option Addr) (c : Nat), k ≤ m ∧ v = .slice D (L + k) c ∧ i = .int .i64 k ∧ Hid (wx.ownsRow w.heap.size 5 1 (.slice D (L + k) c) (L + k) (byts (Exn.bytes (fs.take j) ++ l.take k))) ∧ Hid (Whole wx w.heap.size 34 #[.slice (some ⟨b1, o1, none⟩) N cap]) ∧ Below w.heap.size w wx) (fun _ i _ => m - (intOf i).toNat)
      case atStart => exact ⟨0, D, c, by omega, rfl, rfl, (by have := HO.out; rw [List.take_zero, List.append_nil]; exact this : Hid _), HWB.out, HSTART.out⟩
      case round =>
        obtain ⟨k, D', c', hk, rfl, rfl, HOX, HWX, hbx⟩ := hrel
        have qb := HWX.out.cell 0
        simp at qb
        have hp1 := (hbx.cell (p := ⟨b1, o1 + j * 2, none⟩) L1.out).trans HP1.out
        by_cases hkm : k < m
        · obtain ⟨b2, o2, hkl, rfl, hb2, hc2⟩ := (HR1.out.below (hbx.mono HB.out)).byte hkm
          have hd2 : decide ((k : Int) < (m : Int)) = true := by simp; omega
          have d3 : (0 : Int) ≤ (k : Int) := by omega
          have d4 : (k : Int) < (m : Int) := by omega
          have hbl := below1 wr (.cells #[.int .u8 (l[k].toNat : Nat)] 5)
          have HBX := Lib.hid (hbx.trans (hbl.mono hbx.size))
          have HRN := Lib.hid (Rd.new1 wr 5 (.int .u8 (l[k].toNat : Nat)))
          have HO2 := Lib.hid (own_ext HOX.out hbl)
          have HW2 := Lib.hid (HWX.out.alloc (.cells #[.int .u8 (l[k].toNat : Nat)] 5))
          have HTL := Lib.hid (show byts (Exn.bytes (fs.take j) ++ l.take (k + 1)) = byts (Exn.bytes (fs.take j) ++ l.take k) ++ [.int .u8 (l[k].toNat : Nat)] from by rw [List.take_succ_eq_append_getElem hkl, ← List.append_assoc, byts_append]; rfl)
          obtain ⟨x, hx⟩ : ∃ x : Nat, l[k].toNat = x := ⟨_, rfl⟩
          rw [hx] at hc2 HBX HRN HO2 HW2 HTL
          clear hbl hx hbx HOX HWX
          go_wp2_with (at_builtin; refine wpList_append_rd _ rfl (.tmp 24) (.tmp 34) _ rfl bytesV w.heap.size _ (L + k) _ rfl HO2.out (wr.heap.size + 1) (some ⟨wr.heap.size, 0, none⟩) 1 1 _ rfl HRN.out (by intro u hu; simp at hu; subst hu; rfl) (by unfold maxLen; omega) (by omega) HBX.out.size ?_; intro D5 c5 w5 ho5 hb5 hg5 _; have HO5 := Lib.hid ho5; have HW5 := Lib.hid (HW2.out.kept' hg5 HO2.out byte_ne); have hb6 := HBX.out.trans hb5; clear ho5 hb5 hg5)
          go_roundw
          case rel => exact ⟨k + 1, D5, c5, by omega, by rw [Nat.add_assoc], by go_num, by have := HO5.out; rw [← HTL.out] at this; rw [← Nat.add_assoc]; exact this, HW5, hb6⟩
          case measure => simp [intOf] <;> omega
        · obtain rfl : k = m := by omega
          have hd2 : decide ((k : Int) < (k : Int)) = false := by simp
          go_wp2_with fail
          have hlk : l.take k = l := List.take_of_length_le (by rw [HM.out]; omega)
          go_roundw
          case rel => exact ⟨j + 1, D', c', L + k, by omega, rfl, by go_num, (by rw [HTK.out, List.length_append, ← HLL.out, ← HM.out] : L + k = _), (by have := HOX.out; rw [hlk] at this; rw [HTK.out]; exact this), HWX, hbx⟩
          case measure => simp [intOf] <;> omega
    · obtain rfl : j = N := by omega
      go_wp2_with fail
      go_ret
      have ht : fs.take j = fs := List.take_of_length_le (by rw [HL.out]; omega)
      have hl := HLL.out
      have ho := HO.out
      rw [ht] at hl ho
      subst hl
      exact ⟨D, c, rfl, ho, hb⟩
end Go.Proofs.Ytankhjchdnfpfaa
