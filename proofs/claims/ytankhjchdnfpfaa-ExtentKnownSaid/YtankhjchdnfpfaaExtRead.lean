/-
  Files in parts: Bytes, Len, Volatile, Of.
-/
import Derived.Test.YtankhjchdnfpfaaExtApp
import Derived.Test.YtankhjchdnfpfaaUndef
namespace Go.Proofs.Ytankhjchdnfpfaa
open Go.RowKit
attribute [local go_sem] match_undef
theorem Exn.bytes_take {fs : List Pa} {j : Nat} (hj : j < fs.length) : Exn.bytes (fs.take (j + 1)) = Exn.bytes (fs.take j) ++ fs[j].1 := by
  rw [List.take_succ_eq_append_getElem hj, Exn.bytes_append, Exn.bytes_one]
theorem Exn.bytes_le (fs : List Pa) (j : Nat) : (Exn.bytes (fs.take j)).length ≤ (Exn.bytes fs).length := by
  conv => rhs; rw [← List.take_append_drop j fs, Exn.bytes_append, List.length_append]
  omega
theorem Exn.vol_take {fs : List Pa} {j : Nat} (hj : j < fs.length) : Exn.vol (fs.take (j + 1)) = Exn.vol (fs.take j) + if !fs[j].2 && Exn.some_ fs[j] then 1 else 0 := by
  rw [List.take_succ_eq_append_getElem hj, Exn.vol_snoc]
theorem Exn.vol_le (fs : List Pa) : Exn.vol fs ≤ fs.length := List.length_filter_le ..
set_option maxRecDepth 100000 in
set_option maxHeartbeats 8000000 in
theorem ebytes_any (w : World) (A : Option Addr) (N cap : Nat) (fs : List Pa) (B : Nat) (hB : B ≤ w.heap.size) (h : RdPa w B A N fs) (hN : N ≤ 1000000) (hf : (Exn.bytes fs).length ≤ 1000000000) :
    Calls Try.prog 21 #[.agg #[.slice A N cap]] w (Fresh w.heap.size 5 1 (Exn.bytes fs).length (byts (Exn.bytes fs)) w) := by
  have HL := Lib.hid h.1
  have HBA := Lib.hid (below1 w (.cells #[.slice A N cap] 30))
  have H := Lib.hid h
  have HB := Lib.hid hB
  clear h hB
  go_enter Try.func21, Try.ntmps21
  go_wp2_with fail
  go_loopw [3, 5, 9] (fun v _ i wr => ∃ (j : Nat) (D : Option Addr) (c L : Nat), j ≤ N ∧ v = .slice D L c ∧ i = .int .i64 j ∧ Hid (L = (Exn.bytes (fs.take j)).length) ∧ Hid (wr.ownsRow w.heap.size 5 1 (.slice D L c) L (byts (Exn.bytes (fs.take j)))) ∧ Below w.heap.size w wr) (fun _ _ i _ => N - (intOf i).toNat)
  case atStart => exact ⟨0, none, 0, 0, by omega, rfl, rfl, rfl, World.ownsRow_nil _ _ _ _, HBA.out⟩
  case round =>
    obtain ⟨j, D, c, L, hj, rfl, rfl, HLL, HO, hb⟩ := hrel
    by_cases hlt : j < N
    · have hjl : j < fs.length := by have := HL.out; omega
      obtain ⟨b1, o1, A1, c1, rfl, hb1, hp1, hq1, _, _, hr1⟩ := (H.out.below (hb.mono HB.out)).2 j hjl
      have hd : decide ((j : Int) < (N : Int)) = true := by simp; omega
      have d1 : (0 : Int) ≤ (j : Int) := by omega
      have d2 : (j : Int) < (N : Int) := by omega
      have HTK := Lib.hid (Exn.bytes_take hjl)
      have hle := Exn.bytes_le fs (j + 1)
      rw [HTK.out, List.length_append, ← HLL.out] at hle
      obtain ⟨p, hp⟩ : ∃ p, fs[j] = p := ⟨_, rfl⟩
      rw [hp] at hp1 hq1 hr1 hle HTK
      obtain ⟨l, d⟩ := p
      simp only at hp1 hq1 hr1 hle
      obtain ⟨m, hm⟩ : ∃ m, l.length = m := ⟨_, rfl⟩
      rw [hm] at hp1 hr1 hle
      have HM := Lib.hid hm
      have HR := Lib.hid (hr1.alloc (Nat.le_trans HB.out hb.size) (.cells #[.slice A1 m c1, .bool d] 52))
      have HBB := Lib.hid (hb.alloc hb.size (.cells #[.slice A1 m c1, .bool d] 52))
      have HO2 := Lib.hid (HO.out.alloc (.cells #[.slice A1 m c1, .bool d] 52))
      clear hp hm hr1 hb1 hb
      go_wp2_with (at_builtin; refine wpList_append_rd _ rfl (.tmp 13) (.tmp 15) _ rfl bytesV w.heap.size _ L _ rfl HO2.out B A1 m c1 _ rfl HR.out (byts_one _) (by unfold maxLen; omega) (by omega) HBB.out.size ?_; intro D2 c2 w3 ho2 hb3 _ _; have HO3 := Lib.hid ho2; have hb4 := HBB.out.trans hb3; clear ho2 hb3)
      go_roundw
      case rel => exact ⟨j + 1, D2, c2, L + m, by omega, rfl, by go_num, (by rw [HTK.out, List.length_append, ← HLL.out, ← HM.out] : L + m = _), (by have := HO3.out; rw [← byts_append] at this; rw [HTK.out]; exact this), hb4⟩
      case measure => simp [intOf] <;> omega
    · obtain rfl : j = N := by omega
      go_wp2_with fail
      go_ret
      have ht : fs.take j = fs := List.take_of_length_le (by rw [HL.out]; omega)
      have hl := HLL.out
      have ho := HO.out
      rw [ht] at hl ho
      subst hl
      exact ⟨D, c, rfl, ho, hb⟩
set_option maxRecDepth 100000 in
set_option maxHeartbeats 4000000 in
theorem elen_any (w : World) (A : Option Addr) (N cap : Nat) (fs : List Pa) (B : Nat) (hB : B ≤ w.heap.size) (h : RdPa w B A N fs) (hN : N ≤ 1000000) (hf : (Exn.bytes fs).length ≤ 1000000000) :
    Calls Try.prog 20 #[.agg #[.slice A N cap]] w fun en w' => en = .returned (.int .i64 ((Exn.bytes fs).length : Nat)) ∧ Below w.heap.size w w' := by
  have HBA := Lib.hid (below1 w (.cells #[.slice A N cap] 30))
  have HC := Lib.hid (ebytes_any (w.alloc (.cells #[.slice A N cap] 30)) A N cap fs B (Nat.le_trans hB HBA.out.size) (h.below (HBA.out.mono hB)) hN hf)
  clear h
  obtain ⟨L, hL⟩ : ∃ L, (Exn.bytes fs).length = L := ⟨_, rfl⟩
  rw [hL] at HC ⊢
  clear hL
  go_enter Try.func20, Try.ntmps20
  go_wp2_with fail
  refine HC.out.mono ?_
  clear HC
  rintro en w2 ⟨D, c, rfl, _, hb2⟩
  have hb3 := HBA.out.trans (hb2.mono HBA.out.size)
  clear hb2
  go_wp2_with fail
  go_ret
  exact ⟨rfl, hb3⟩
set_option maxRecDepth 100000 in
set_option maxHeartbeats 8000000 in
theorem evol_any (w : World) (A : Option Addr) (N cap : Nat) (fs : List Pa) (B : Nat) (hB : B ≤ w.heap.size) (h : RdPa w B A N fs) (hN : N ≤ 1000000) :
    Calls Try.prog 22 #[.agg #[.slice A N cap]] w fun en w' => en = .returned (.int .i64 (Exn.vol fs : Nat)) ∧ Below w.heap.size w w' := by
  have HL := Lib.hid h.1
  have HBA := Lib.hid (below1 w (.cells #[.slice A N cap] 30))
  have H := Lib.hid h
  have HB := Lib.hid hB
  clear h hB
  go_enter Try.func22, Try.ntmps22
  go_wp2_with fail
  go_loopw [2, 4, 8] (fun v _ i wr => ∃ (j k : Nat), j ≤ N ∧ k ≤ j ∧ v = .int .i64 k ∧ i = .int .i64 j ∧ Hid (Exn.vol (fs.take j) = k) ∧ Below w.heap.size w wr) (fun _ _ i _ => N - (intOf i).toNat)
  case atStart => exact ⟨0, 0, by omega, by omega, rfl, rfl, rfl, HBA.out⟩
  case round =>
    obtain ⟨j, k, hj, hkj, rfl, rfl, HV, hb⟩ := hrel
    by_cases hlt : j < N
    · have hjl : j < fs.length := by have := HL.out; omega
      obtain ⟨b1, o1, A1, c1, rfl, hb1, hp1, hq1, _, _, _⟩ := (H.out.below (hb.mono HB.out)).2 j hjl
      have hd : decide ((j : Int) < (N : Int)) = true := by simp; omega
      have d1 : (0 : Int) ≤ (j : Int) := by omega
      have d2 : (j : Int) < (N : Int) := by omega
      have htk := Exn.vol_take hjl
      rw [HV.out] at htk
      obtain ⟨p, hp⟩ : ∃ p, fs[j] = p := ⟨_, rfl⟩
      rw [hp] at hp1 hq1 htk
      obtain ⟨l, d⟩ := p
      simp only at hp1 hq1 htk
      obtain ⟨m, hm⟩ : ∃ m, l.length = m := ⟨_, rfl⟩
      unfold Exn.some_ at htk
      simp only [hm] at htk hp1
      have HBB := Lib.hid (hb.alloc hb.size (.cells #[.slice A1 m c1, .bool d] 52))
      have HTK := Lib.hid htk
      clear hp hm hb1 hb htk
      cases d with
      | true =>
        have H2 := Lib.hid (show Exn.vol (fs.take (j + 1)) = k from by rw [HTK.out]; rfl)
        go_wp2_with fail
        go_roundw
        case rel => exact ⟨j + 1, k, by omega, by omega, rfl, by go_num, H2, HBB.out⟩
        case measure => simp [intOf] <;> omega
      | false =>
        by_cases h0 : m = 0
        · subst h0
          have H2 := Lib.hid (show Exn.vol (fs.take (j + 1)) = k from by rw [HTK.out]; rfl)
          go_wp2_with fail
          go_roundw
          case rel => exact ⟨j + 1, k, by omega, by omega, rfl, by go_num, H2, HBB.out⟩
          case measure => simp [intOf] <;> omega
        · have t0 : 0 < m := by omega
          have H2 := Lib.hid (show Exn.vol (fs.take (j + 1)) = k + 1 from by rw [HTK.out]; simp [t0])
          go_wp2_with fail
          go_roundw
          case rel => exact ⟨j + 1, k + 1, by omega, by omega, by go_num, by go_num, H2, HBB.out⟩
          case measure => simp [intOf] <;> omega
    · obtain rfl : j = N := by omega
      go_wp2_with fail
      go_ret
      have ht : fs.take j = fs := List.take_of_length_le (by rw [HL.out]; omega)
      have hv := HV.out
      rw [ht] at hv
      rw [hv]
      exact ⟨rfl, hb⟩
end Go.Proofs.Ytankhjchdnfpfaa
