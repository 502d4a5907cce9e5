/-
  The walk of FrameBits: it returns true.
-/
import Derived.Test.YtnncohajlmbedaaFraBitsLaw
import Derived.BigRegion
namespace Go.Proofs.Ytnncohajlmbedaa
open Go.RowKit
attribute [local go_sem] match_undef
theorem pow_byte (m : Nat) (h : m < 8) : UInt8.ofNat (2 ^ m) ≠ 0 ∧ ((UInt8.ofNat (2 ^ m)).toNat : Int) = 2 ^ m % 256 ∧ (m = 7 → UInt8.ofNat (2 ^ m) = 128) ∧ (m = 0 → UInt8.ofNat (2 ^ m) = 1) := by
  have : m = 0 ∨ m = 1 ∨ m = 2 ∨ m = 3 ∨ m = 4 ∨ m = 5 ∨ m = 6 ∨ m = 7 := by omega
  rcases this with rfl | rfl | rfl | rfl | rfl | rfl | rfl | rfl <;> decide
theorem rd_whole {w : World} {g n : Nat} {t : TypeId} {cur : Array Value} {xs : List UInt8} {j : Nat} {y : UInt8} (hw : Whole w g t cur) (ht : cur.toList.take n = byts (xs.set j y)) (hl : xs.length = n) :
    Rd w w.heap.size 1 (some ⟨g, 0, none⟩) n (byts (xs.set j y)) := by
  rw [← ht]
  refine Rd.of_heap hw hw.lt ?_
  have h1 : (cur.toList.take n).length = n := by rw [ht, byts_length, List.length_set, hl]
  rw [List.length_take] at h1
  simp at h1
  omega

set_option maxRecDepth 100000 in
set_option maxHeartbeats 4000000 in
theorem pick_any (w : World) (z : Int) (N : Nat) (hN : 0 < N) (hN2 : N ≤ 1000000) :
    Calls Try.prog 28 #[.int .i64 z, .int .i64 (N : Nat)] w fun en w' => en = .returned (.int .i64 (z % (N : Int))) ∧ Below w.heap.size w w' := by
  obtain ⟨h1, h2, h3⟩ := pick_law z (N : Int) (by omega)
  have HP := Lib.hid (show (z.tmod (N : Int) + (N : Int)) % (N : Int) = z % (N : Int) from by rw [← Int.tmod_eq_emod_of_nonneg (by omega)]; exact h1)
  have e1 : IntKind.i64.wrap (z.tmod (N : Int) + (N : Int)) = z.tmod (N : Int) + (N : Int) := by rw [IntKind.wrap_i64]; omega
  have e2 : ¬ (N : Int) = 0 := by omega
  have e3 : ((N : Int) == 0) = false := by rw [beq_eq_false_iff_ne]; omega
  have e4 : decide ((N : Int) ≤ 0) = false := by simp; omega
  clear h1
  go_enter Try.func28, Try.ntmps28
  go_wp2_with fail
  go_ret
  exact ⟨by rw [← HP.out]; rfl, Below.refl _ _⟩

set_option maxRecDepth 100000 in
set_option maxHeartbeats 8000000 in
theorem frameBits_any (w : World) (k : UInt8) (A : Option Addr) (n cap : Nat) (xs : List UInt8) (h : Rd w w.heap.size 1 A n (byts xs)) (z : Int) :
    Calls Try.prog 4 #[.agg #[.int .u8 (k.toNat : Nat), .slice A n cap], .int .i64 z] w fun en w' => en = .returned (.bool true) ∧ Below w.heap.size w w' := by
  have HL := Lib.hid h.blen
  have H := Lib.hid (h.alloc (Nat.le_refl _) (.cells #[.int .u8 (k.toNat : Nat), .slice A n cap] 26))
  have hb := below1 w (.cells #[.int .u8 (k.toNat : Nat), .slice A n cap] 26)
  clear h
  by_cases hbig : 400 < n
  · have hd : decide ((400 : Int) < (n : Int)) = true := by simp; omega
    go_enter Try.func4, Try.ntmps4
    go_wp2_with fail
    refine (fworks_any _).mono ?_
    rintro en wz ⟨rfl, hbz⟩
    replace hb := hb.trans (hbz.mono hb.size)
    go_wp2_with fail
    go_ret
    exact ⟨rfl, hb⟩
  · have hd : decide ((400 : Int) < (n : Int)) = false := by simp; omega
    obtain ⟨W, hW⟩ : ∃ W, Fra.bytes k xs = W := ⟨_, rfl⟩
    obtain ⟨L, hL⟩ : ∃ L, W.length = L := ⟨_, rfl⟩
    have hLn : L = (Fra.head k xs).length + n + 4 := by rw [← hL, ← hW, Fra.bytes_length, HL.out]
    have hh := Fra.head_le k xs
    have e1 : Fra.putB k xs = W := by unfold Fra.putB; rw [if_neg (by rw [HL.out]; omega), hW]
    have e2 : Fra.putE xs = 0 := by unfold Fra.putE; rw [if_neg (by rw [HL.out]; omega)]
    have hL6 : 6 ≤ L := by omega
    have hL4 : L ≤ 500 := by omega
    obtain ⟨t, ht, ht2⟩ : ∃ t : Nat, z % (8 * (L : Int)) = t ∧ t < 8 * L := ⟨(z % (8 * (L : Int))).toNat, by have := Int.emod_nonneg z (show (8 * (L : Int)) ≠ 0 by omega); omega, by have := Int.emod_lt_of_pos z (show 0 < 8 * (L : Int) by omega); have := Int.emod_nonneg z (show (8 * (L : Int)) ≠ 0 by omega); omega⟩
    have hput := fput_any (w.alloc (.cells #[.int .u8 (k.toNat : Nat), .slice A n cap] 26)) k A n cap xs w.heap.size (below1 w (.cells #[.int .u8 (k.toNat : Nat), .slice A n cap] 26)).size H.out (by omega)
    rw [e1, e2, hL] at hput
    have HPUT := Lib.hid hput
    have HW := Lib.hid hW
    have HWL := Lib.hid hL
    have HT := Lib.hid ht
    clear hput hW hL hLn hh e1 e2 ht
    go_enter Try.func4, Try.ntmps4
    go_wp2_with fail
    refine HPUT.out.mono ?_
    clear HPUT
    rintro en w2 ⟨D1, c1, rfl, ho1, hbn⟩
    have HO1 := Lib.hid ho1
    replace hb := hb.trans (hbn.mono hb.size)
    clear ho1 hbn
    have s0 : ((L : Int) == 0) = false := by rw [beq_eq_false_iff_ne]; omega
    have s1 : ¬ L = 0 := by omega
    have hpk := pick_any w2 z (8 * L) (by omega) (by omega)
    rw [show ((8 * L : Nat) : Int) = 8 * (L : Int) from by push_cast; rfl, HT.out] at hpk
    have HPK := Lib.hid hpk
    clear hpk
    go_wp2_with fail
    refine HPK.out.mono ?_
    clear HPK
    rintro en w3 ⟨rfl, hbn⟩
    replace HO1 := Lib.hid (own_ext HO1.out hbn)
    replace hb := hb.trans (hbn.mono hb.size)
    clear hbn
    go_wp2_with fail
    have hown := own_any w3 D1 L c1 W w3.heap.size (Rd.of_own HO1.out) (by omega)
    rw [HWL.out] at hown
    refine hown.mono ?_
    clear hown
    rintro en w4 ⟨D8, c8, rfl, ho8, hbn⟩
    have hgz := hb.size
    replace hb := hb.trans (hbn.mono hb.size)
    have HC8 := Lib.hid (own_cap ho8)
    obtain ⟨g, cur, rfl, hgB, hw, htake⟩ := own_whole ho8 (by omega)
    rw [Nat.mul_one] at htake
    have HGB := Lib.hid (show w.heap.size ≤ g by omega)
    have hj : t / 8 < L := by omega
    have hjx : t / 8 < W.length := by rw [HWL.out]; exact hj
    obtain ⟨x, hx⟩ : ∃ x, x = W[t / 8].toNat := ⟨_, rfl⟩
    have hcell : w4.cell? ⟨g, t / 8, none⟩ = some (.int .u8 (x : Nat)) := by
      have e : (byts W)[t / 8]? = some (.int .u8 (x : Nat)) := by rw [byts_get hjx, hx]
      rw [hw.cell, ← e, ← htake]
      simp [hj]
    have hfr := hw.frozen (t / 8)
    have hp := pow_byte (t % 8) (by omega)
    obtain ⟨y, hy⟩ : ∃ y : UInt8, y = W[t / 8] ^^^ UInt8.ofNat (2 ^ (t % 8)) := ⟨_, rfl⟩
    have e1 : bits BinOp.xor IntKind.u8 (↑x) (2 ^ (t % 8) % 256) = ((y.toNat : Nat) : Int) := by
      rw [hx, hy, UInt8.toNat_xor, ← u8_xor_nat _ _ (Crc.byte_lt _) (Crc.byte_lt _), hp.2.1]
    obtain ⟨cur2, hw2, ht3, hb2⟩ := put_byte (B := w.heap.size) (j := t / 8) y hw htake HGB.out
    have hlaw : ¬ ((Fra.take (W.set (t / 8) y) 0).2.2.2 = 0 ∧ (Fra.take (W.set (t / 8) y) 0).2.2.1 = (W.length : Int)) := by
      have h0 := HW.out
      subst h0
      exact Fra.bits_law k xs hjx y (UInt8.ofNat (2 ^ (t % 8))) hy hp.1
    have HE := Lib.hid e1
    have HLAW := Lib.hid hlaw
    clear hx hw htake hy hp e1 hlaw ho8 hbn hgz HO1
    have d1 : (0 : Int) ≤ (t : Int) := by omega
    have d2 : ((t / 8 : Nat) : Int) < (L : Int) := by omega
    go_wp2_with fail
    go_region
    rw [HE.out]
    generalize w4.setCell ⟨g, t / 8, none⟩ (.int .u8 (y.toNat : Int)) = w5' at *
    obtain ⟨w5, hw5e⟩ : ∃ w5, w5 = w5'.drew := ⟨_, rfl⟩
    have hw5 : Whole w5 g 5 cur2 := by rw [hw5e]; exact hw2
    have hb5 : Below w.heap.size w w5 := by rw [hw5e]; exact (hb.trans hb2).drew
    rw [← hw5e]
    clear hw5e hw2 hb hcell hfr hb2
    have hb := hb5
    have HRV := Lib.hid (rd_whole hw5 ht3 HWL.out)
    clear hb5 hw5 ht3
    obtain ⟨V, hV⟩ : ∃ V, W.set (t / 8) y = V := ⟨_, rfl⟩
    have HVL := Lib.hid (show V.length = L by rw [← hV, List.length_set]; exact HWL.out)
    rw [hV] at HRV HLAW
    obtain ⟨tk, htk0⟩ : ∃ t, Fra.take V 0 = t := ⟨_, rfl⟩
    obtain ⟨on, hon⟩ : ∃ t, Fra.one V = t := ⟨_, rfl⟩
    have hone := Fra.one_law V (by rw [HVL.out, ← HWL.out]; exact HLAW.out)
    obtain ⟨k2, bd2, nx2, x2⟩ := tk
    obtain ⟨k3, bd3, x3⟩ := on
    rw [hon] at hone
    replace HLAW := HLAW.out
    rw [htk0, HWL.out] at HLAW
    simp only at HLAW hone
    have HTK := Lib.hid htk0
    have HON := Lib.hid hon
    have v3 : (((x3 : Nat) : Int) != 0) = true := by rw [bne_iff_ne]; omega
    clear hV htk0 hon hone
    go_wp2_with fail
    have htk := ftake_any w5 (some ⟨g, 0, none⟩) L c8 V w5.heap.size (Nat.le_refl _) HRV.out HC8.out.1 HC8.out.2 (by omega) 0 (by omega) (by omega)
    rw [HTK.out] at htk
    unfold FrP at htk
    refine htk.mono ?_
    clear htk
    rintro en w6 ⟨D9, c9, rfl, _, hbn⟩
    replace HRV := Lib.hid (HRV.out.below hbn)
    have hz56 := hbn.size
    replace hb := hb.trans (hbn.mono hb.size)
    clear hbn
    go_wp2_with fail
    have hrv := HRV.out.alloc hz56 (.cells #[.int .u8 (k2.toNat : Nat), .slice D9 bd2.length c9] 26)
    have hz57 := Nat.le_trans hz56 (below1 w6 (.cells #[.int .u8 (k2.toNat : Nat), .slice D9 bd2.length c9] 26)).size
    have hb7 := hb.alloc hb.size (.cells #[.int .u8 (k2.toNat : Nat), .slice D9 bd2.length c9] 26)
    clear HRV hb hz56
    generalize World.alloc w6 (.cells #[.int .u8 (k2.toNat : Nat), .slice D9 bd2.length c9] 26) = w7 at hrv hz57 hb7 ⊢
    have hb := hb7
    have hon := fone_any w7 (some ⟨g, 0, none⟩) L c8 V w5.heap.size hz57 hrv HC8.out.1 HC8.out.2 (by omega)
    rw [HON.out] at hon
    unfold FrOne at hon
    clear hrv hz57 hb7
    refine hon.mono ?_
    clear hon
    rintro en w8 ⟨D10, c10, rfl, _, hbn⟩
    replace hb := (hb.trans (hbn.mono hb.size))
    replace hb := hb.alloc hb.size (.cells #[.int .u8 (k3.toNat : Nat), .slice D10 bd3.length c10] 26)
    clear hbn
    by_cases hx2 : x2 = 0
    · subst hx2
      have v2 : (nx2 != (L : Int)) = true := by
        rw [bne_iff_ne]
        intro h0
        exact HLAW ⟨rfl, h0⟩
      clear HLAW
      go_wp2_with fail
      refine (fworks_any _).mono ?_
      rintro en wz ⟨rfl, hbz⟩
      replace hb := hb.trans (hbz.mono hb.size)
      go_wp2_with fail
      go_ret
      exact ⟨rfl, hb⟩
    · have v2 : (((x2 : Nat) : Int) != 0) = true := by rw [bne_iff_ne]; omega
      clear HLAW
      go_wp2_with fail
      refine (fworks_any _).mono ?_
      rintro en wz ⟨rfl, hbz⟩
      replace hb := hb.trans (hbz.mono hb.size)
      go_wp2_with fail
      go_ret
      exact ⟨rfl, hb⟩

end Go.Proofs.Ytnncohajlmbedaa
