/-
  The walk of CrcFlips: it returns true.
-/
import Derived.Test.YtfiabgpegdkldaaCrcWorks
import Derived.Test.YtfiabgpegdkldaaGrow
import Derived.BigRegion
namespace Go.Proofs.Ytfiabgpegdkldaa
open Go.RowKit
theorem pow_byte (m : Nat) (h : m < 8) : UInt8.ofNat (2 ^ m) ≠ 0 ∧ ((UInt8.ofNat (2 ^ m)).toNat : Int) = 2 ^ m % 256 ∧ (m = 7 → UInt8.ofNat (2 ^ m) = 128) ∧ (m = 0 → UInt8.ofNat (2 ^ m) = 1) := by
  have : m = 0 ∨ m = 1 ∨ m = 2 ∨ m = 3 ∨ m = 4 ∨ m = 5 ∨ m = 6 ∨ m = 7 := by omega
  rcases this with rfl | rfl | rfl | rfl | rfl | rfl | rfl | rfl <;> decide
theorem pow_two (m : Nat) (h : m < 7) : UInt8.ofNat (2 ^ m) ^^^ UInt8.ofNat (2 ^ (m + 1)) ≠ 0 := by
  have : m = 0 ∨ m = 1 ∨ m = 2 ∨ m = 3 ∨ m = 4 ∨ m = 5 ∨ m = 6 := by omega
  rcases this with rfl | rfl | rfl | rfl | rfl | rfl | rfl <;> decide
theorem flips_ne (xs : List UInt8) {t : Nat} (hjx : t / 8 < xs.length) {y z : UInt8} (hy : y = xs[t / 8] ^^^ UInt8.ofNat (2 ^ (t % 8)))
    (hjx1 : (t + 1) / 8 < (xs.set (t / 8) y).length) (hz : z = (xs.set (t / 8) y)[(t + 1) / 8] ^^^ UInt8.ofNat (2 ^ ((t + 1) % 8))) :
    Crc.update 0 ((xs.set (t / 8) y).set ((t + 1) / 8) z) ≠ Crc.update 0 xs := by
  by_cases h7 : t % 8 = 7
  · have e : (t + 1) / 8 = t / 8 + 1 := by omega
    have e0 : (t + 1) % 8 = 0 := by omega
    have hl1 : t / 8 + 1 < xs.length := by rw [List.length_set] at hjx1; omega
    have hz2 : z = xs[t / 8 + 1] ^^^ 1 := by
      rw [hz, e0, (pow_byte 0 (by omega)).2.2.2 rfl]
      congr 1
      simp only [e]
      rw [List.getElem_set_ne (by omega)]
    simp only [e]
    exact Crc.flip2_ne xs hl1 y z (by rw [hy, h7, (pow_byte 7 (by omega)).2.2.1 rfl]) hz2
  · have e : (t + 1) / 8 = t / 8 := by omega
    have e0 : (t + 1) % 8 = t % 8 + 1 := by omega
    have hz2 : z = y ^^^ UInt8.ofNat (2 ^ (t % 8 + 1)) := by
      rw [hz, e0]
      congr 1
      simp only [e]
      rw [List.getElem_set_self]
    simp only [e]
    rw [List.set_set]
    exact Crc.flip_ne xs hjx z (UInt8.ofNat (2 ^ (t % 8)) ^^^ UInt8.ofNat (2 ^ (t % 8 + 1))) (by rw [hz2, hy, UInt8.xor_assoc]) (pow_two _ (by omega))
theorem rd_whole {w : World} {g n : Nat} {t : TypeId} {cur : Array Value} {xs : List UInt8} {j : Nat} {y : UInt8} (hw : Whole w g t cur) (ht : cur.toList.take n = byts (xs.set j y)) (hl : xs.length = n) :
    Rd w w.heap.size 1 (some ⟨g, 0, none⟩) n (byts (xs.set j y)) := by
  rw [← ht]
  refine Rd.of_heap hw hw.lt ?_
  have h1 : (cur.toList.take n).length = n := by rw [ht, byts_length, List.length_set, hl]
  rw [List.length_take] at h1
  simp at h1
  omega
set_option maxHeartbeats 1000000 in
set_option maxRecDepth 100000 in
theorem crcFlips_any (w : World) (A : Option Addr) (n cap : Nat) (xs : List UInt8) (i : Nat) (two : Bool) (hi : i < 65536) (h : Rd w w.heap.size 1 A n (byts xs)) (hc : n ≤ cap) (hm : cap ≤ maxLen) :
    Calls Try.prog 3 #[.slice A n cap, .int .u16 (i : Nat), .bool two] w fun e w' => e = .returned (.bool true) ∧ Below w.heap.size w w' := by
  have hl := h.blen
  have HC := Lib.hid hm
  have HL := Lib.hid hl
  have H := Lib.hid h
  clear hl h
  unfold maxLen at hm
  by_cases hz : n = 0
  · subst hz
    go_enter Try.func3, Try.ntmps3
    go_wp2_with fail
    refine (crcWorks_any _).mono ?_
    rintro e w1 ⟨rfl, hb1⟩
    go_wp2_with fail
    go_ret
    exact ⟨rfl, hb1⟩
  have hz' : ((n : Int) == 0) = false := by rw [beq_eq_false_iff_ne]; omega
  by_cases hbig : 300 < n
  · go_enter Try.func3, Try.ntmps3
    go_wp2_with fail
    refine (crcWorks_any _).mono ?_
    rintro e w1 ⟨rfl, hb1⟩
    go_wp2_with fail
    go_ret
    exact ⟨rfl, hb1⟩
  · obtain ⟨t, ht, ht2⟩ : ∃ t : Nat, ((i : Int) % (8 * (n : Int))) = t ∧ t < 8 * n := ⟨i % (8 * n), by simp, Nat.mod_lt i (by omega)⟩
    go_enter Try.func3, Try.ntmps3
    go_wp2_with (at_builtin; refine wpList_append_rd _ rfl (.tmp 24) (.tmp 25) _ rfl bytesE w.heap.size (.slice none 0 0) 0 [] rfl (World.ownsRow_nil _ _ _ _) w.heap.size A n cap _ rfl H.out (byts_one _) (by unfold maxLen; omega) (by omega) (Nat.le_refl _) ?_; intro A' c' w1 hown hb1 _ _)
    obtain ⟨g, cur, hA, hgB, hw, htake⟩ := own_whole hown (by omega)
    subst hA
    rw [Nat.zero_add, Nat.mul_one, List.nil_append] at htake
    have hj : t / 8 < n := by omega
    have hjx : t / 8 < xs.length := by rw [HL.out]; exact hj
    obtain ⟨x, hx⟩ : ∃ x, x = xs[t / 8].toNat := ⟨_, rfl⟩
    have hcell : w1.cell? ⟨g, t / 8, none⟩ = some (.int .u8 (x : Nat)) := by
      have e : (byts xs)[t / 8]? = some (.int .u8 (x : Nat)) := by rw [byts_get hjx, hx]
      rw [hw.cell, ← e, ← htake]
      simp [hj]
    have hfr := hw.frozen (t / 8)
    have HX := Lib.hid hx
    simp only [Nat.zero_add, List.nil_append] at hown
    have HW := Lib.hid hw
    have HT := Lib.hid htake
    have HT2 := Lib.hid ht
    clear hx hw htake ht
    have hp := pow_byte (t % 8) (by omega)
    obtain ⟨y, hy⟩ : ∃ y : UInt8, y = xs[t / 8] ^^^ UInt8.ofNat (2 ^ (t % 8)) := ⟨_, rfl⟩
    have e1 : bits BinOp.xor IntKind.u8 (↑x) (2 ^ (t % 8) % 256) = ((y.toNat : Nat) : Int) := by
      rw [HX.out, hy, UInt8.toNat_xor, ← u8_xor_nat _ _ (Crc.byte_lt _) (Crc.byte_lt _), hp.2.1]
    obtain ⟨cur2, hw2, ht3, hb2⟩ := put_byte (j := t / 8) y HW.out HT.out hgB
    have HK := Lib.hid (own_cap hown)
    obtain ⟨N0, hN0⟩ : ∃ N0, Crc.update 0 xs = N0 := ⟨_, rfl⟩
    have HN0 := Lib.hid hN0
    have HY := Lib.hid hy
    have HP := Lib.hid hp
    have HE := Lib.hid e1
    clear hN0 hy hp e1 hown
    by_cases hboth : two = true ∧ t + 1 < 8 * n
    · obtain ⟨rfl, hlt⟩ := hboth
      go_region
      rw [HE.out]
      generalize w1.setCell ⟨g, t / 8, none⟩ (.int .u8 (y.toNat : Int)) = w2' at *
      obtain ⟨w2, hw2e⟩ : ∃ w2, w2 = w2'.drew := ⟨_, rfl⟩
      have hw2' : Whole w2 g 5 cur2 := by rw [hw2e]; exact hw2
      have hB1 : Below w.heap.size w w2 := by rw [hw2e]; exact (hb1.trans hb2).drew
      rw [← hw2e]
      have hj1 : (t + 1) / 8 < n := by omega
      have hjx1 : (t + 1) / 8 < (xs.set (t / 8) y).length := by rw [List.length_set, HL.out]; exact hj1
      obtain ⟨x1, hx1⟩ : ∃ x1, x1 = (xs.set (t / 8) y)[(t + 1) / 8].toNat := ⟨_, rfl⟩
      have hcell1 : w2.cell? ⟨g, (t + 1) / 8, none⟩ = some (.int .u8 (x1 : Nat)) := by
        have e : (byts (xs.set (t / 8) y))[(t + 1) / 8]? = some (.int .u8 (x1 : Nat)) := by rw [byts_get hjx1, hx1]
        rw [hw2'.cell, ← e, ← ht3]
        simp [hj1]
      have hfr1 := hw2'.frozen ((t + 1) / 8)
      have hp1 := pow_byte ((t + 1) % 8) (by omega)
      obtain ⟨z, hz1⟩ : ∃ z : UInt8, z = (xs.set (t / 8) y)[(t + 1) / 8] ^^^ UInt8.ofNat (2 ^ ((t + 1) % 8)) := ⟨_, rfl⟩
      have e2 : bits BinOp.xor IntKind.u8 (↑x1) (2 ^ ((t + 1) % 8) % 256) = ((z.toNat : Nat) : Int) := by
        rw [hx1, hz1, UInt8.toNat_xor, ← u8_xor_nat _ _ (Crc.byte_lt _) (Crc.byte_lt _), hp1.2.1]
      obtain ⟨cur4, hw4, ht4, hb4⟩ := put_byte (j := (t + 1) / 8) z hw2' ht3 hgB
      obtain ⟨N1, hN1⟩ : ∃ N1, Crc.update 0 ((xs.set (t / 8) y).set ((t + 1) / 8) z) = N1 := ⟨_, rfl⟩
      have hne : ((N1 : Int) != (N0 : Int)) = true := by
        rw [bne_iff_ne]
        have key : Crc.update 0 ((xs.set (t / 8) y).set ((t + 1) / 8) z) ≠ Crc.update 0 xs := flips_ne xs hjx HY.out hjx1 hz1
        rw [HN0.out, hN1] at key
        omega
      have HN1 := Lib.hid hN1
      have HE2 := Lib.hid e2
      have HR4 := Lib.hid hw4
      have HT4 := Lib.hid ht4
      clear hN1 hw2 hw2' ht3 hb2 hw2e hcell hfr e2 hw4 ht4 hx1 hz1 hp1
      have hdd : decide ((t : Int) + 1 < 8 * (n : Int)) = true := by simp; omega
      go_wp2_with fail
      go_region
      rw [HE2.out]
      generalize w2.setCell ⟨g, (t + 1) / 8, none⟩ (.int .u8 (z.toNat : Int)) = w4' at *
      obtain ⟨w4, hw4e⟩ : ∃ w4, w4 = w4'.drew := ⟨_, rfl⟩
      have hw4' : Whole w4 g 5 cur4 := by rw [hw4e]; exact HR4.out
      have hB2 : Below w.heap.size w w4 := by rw [hw4e]; exact (hB1.trans hb4).drew
      rw [← hw4e]
      have HR2 := Lib.hid (rd_whole hw4' HT4.out (by rw [List.length_set, HL.out]))
      clear hw4' hb4 hw4e hcell1 hfr1
      go_wp2_with fail
      refine (crcSum_one w4 (some ⟨g, 0, none⟩) n c' _ w4.heap.size (Nat.le_refl _) HR2.out HK.out.1 HK.out.2 N1 HN1.out _ rfl).mono ?_
      rintro e w5 ⟨rfl, hb5⟩
      go_wp2_with fail
      refine (crcSum_one w5 A n cap xs w.heap.size (Nat.le_trans hB2.size hb5.size) ((H.out.below hB2).below (hb5.mono hB2.size)) hc HC.out N0 HN0.out _ rfl).mono ?_
      rintro e w6 ⟨rfl, hb6⟩
      go_wp2_with fail
      refine (crcWorks_any _).mono ?_
      rintro e w7 ⟨rfl, hb7⟩
      go_wp2_with fail
      go_ret
      exact ⟨rfl, hB2.trans (((hb5.trans (hb6.mono hb5.size)).trans (hb7.mono (Nat.le_trans hb5.size hb6.size))).mono hB2.size)⟩
    · go_region
      rw [HE.out]
      generalize w1.setCell ⟨g, t / 8, none⟩ (.int .u8 (y.toNat : Int)) = w2' at *
      obtain ⟨w2, hw2e⟩ : ∃ w2, w2 = w2'.drew := ⟨_, rfl⟩
      have hw2' : Whole w2 g 5 cur2 := by rw [hw2e]; exact hw2
      have hB2 : Below w.heap.size w w2 := by rw [hw2e]; exact (hb1.trans hb2).drew
      rw [← hw2e]
      obtain ⟨N1, hN1⟩ : ∃ N1, Crc.update 0 (xs.set (t / 8) y) = N1 := ⟨_, rfl⟩
      have hne : ((N1 : Int) != (N0 : Int)) = true := by
        rw [bne_iff_ne]
        have := Crc.flip_ne xs hjx y _ HY.out HP.out.1
        rw [HN0.out, hN1] at this
        omega
      have HN1 := Lib.hid hN1
      have HR2 := Lib.hid (rd_whole hw2' ht3 HL.out)
      clear hN1 hw2 hw2' ht3 hb2 hw2e
      have hd : two = false ∨ two = true ∧ ¬ (t + 1 < 8 * n) := by
        cases two
        · exact .inl rfl
        · exact .inr ⟨rfl, fun h => hboth ⟨rfl, h⟩⟩
      clear hboth
      rcases hd with rfl | ⟨rfl, hge⟩
      · go_wp2_with fail
        refine (crcSum_one w2 (some ⟨g, 0, none⟩) n c' _ w2.heap.size (Nat.le_refl _) HR2.out HK.out.1 HK.out.2 N1 HN1.out _ rfl).mono ?_
        rintro e w3 ⟨rfl, hb3⟩
        go_wp2_with fail
        refine (crcSum_one w3 A n cap xs w.heap.size (Nat.le_trans hB2.size hb3.size) ((H.out.below hB2).below (hb3.mono hB2.size)) hc HC.out N0 HN0.out _ rfl).mono ?_
        rintro e w4 ⟨rfl, hb4⟩
        go_wp2_with fail
        refine (crcWorks_any _).mono ?_
        rintro e w5 ⟨rfl, hb5⟩
        go_wp2_with fail
        go_ret
        exact ⟨rfl, hB2.trans (((hb3.trans (hb4.mono hb3.size)).trans (hb5.mono (Nat.le_trans hb3.size hb4.size))).mono hB2.size)⟩
      · have hdd : decide ((t : Int) + 1 < 8 * (n : Int)) = false := by simp; omega
        go_wp2_with fail
        refine (crcSum_one w2 (some ⟨g, 0, none⟩) n c' _ w2.heap.size (Nat.le_refl _) HR2.out HK.out.1 HK.out.2 N1 HN1.out _ rfl).mono ?_
        rintro e w3 ⟨rfl, hb3⟩
        go_wp2_with fail
        refine (crcSum_one w3 A n cap xs w.heap.size (Nat.le_trans hB2.size hb3.size) ((H.out.below hB2).below (hb3.mono hB2.size)) hc HC.out N0 HN0.out _ rfl).mono ?_
        rintro e w4 ⟨rfl, hb4⟩
        go_wp2_with fail
        refine (crcWorks_any _).mono ?_
        rintro e w5 ⟨rfl, hb5⟩
        go_wp2_with fail
        go_ret
        exact ⟨rfl, hB2.trans (((hb3.trans (hb4.mono hb3.size)).trans (hb5.mono (Nat.le_trans hb3.size hb4.size))).mono hB2.size)⟩
end Go.Proofs.Ytfiabgpegdkldaa
