/-
  Frames with a bit another one: no frame of as many bytes. No function of the program in sight.
-/
import Derived.Test.YtnncohajlmbedaaFraTakes
namespace Go.Proofs.Ytnncohajlmbedaa
open Go.RowKit
namespace Fra
theorem ofNat_eq {a b : Nat} (ha : a < 256) (hb : b < 256) (h : UInt8.ofNat a = UInt8.ofNat b) : a = b := by
  have h1 := congrArg UInt8.toNat h
  rw [UInt8.toNat_ofNat', UInt8.toNat_ofNat'] at h1
  omega
theorem sum4_inj {a b : Nat} (ha : a < 4294967296) (hb : b < 4294967296) (h : sum4 a = sum4 b) : a = b := by
  simp only [sum4, List.cons.injEq, and_true] at h
  obtain ⟨h0, h1, h2, h3⟩ := h
  have e0 := ofNat_eq (by omega) (by omega) h0
  have e1 := ofNat_eq (by omega) (by omega) h1
  have e2 := ofNat_eq (by omega) (by omega) h2
  have e3 := ofNat_eq (by omega) (by omega) h3
  omega
theorem ok_sum {b : List UInt8} (h : (take b 0).2.2.2 = 0) (hn : (take b 0).2.2.1 = (b.length : Int)) : b.drop (b.length - 4) = sum4 (Crc.update 0 (b.take (b.length - 4))) := by
  rcases way b 0 with ⟨h0, e⟩ | ⟨q, hp, hq, x, hx, hv, e⟩ | ⟨q, v, s, hp, hq, hv, hs, hs2, hbig, h64, e⟩ | ⟨q, v, s, hp, hq, hv, hs, hs2, hbig, hlen, e⟩ | ⟨q, v, s, hp, hq, hv, hs, hs2, hbig, hlen, hsum, e⟩ | ⟨q, v, s, hp, hq, hv, hs, hs2, hbig, hlen, hsum, e⟩
  · rw [e] at h; simp at h
  · rw [e] at h; simp only at h; omega
  · rw [e] at h; simp at h
  · rw [e] at h; simp at h
  · rw [e] at h; simp at h
  · rw [e] at hn
    simp only at hn
    have hq0 : q = 0 := by omega
    subst hq0
    have hM : s + v = b.length - 4 := by omega
    rw [hM, List.drop_zero] at hsum
    rw [List.take_of_length_le (by omega)] at hsum
    exact hsum
theorem bits_law (k : UInt8) (bd : List UInt8) {j : Nat} (hj : j < (bytes k bd).length) (y p : UInt8) (hy : y = (bytes k bd)[j] ^^^ p) (hp : p ≠ 0) :
    ¬ ((take ((bytes k bd).set j y) 0).2.2.2 = 0 ∧ (take ((bytes k bd).set j y) 0).2.2.1 = ((bytes k bd).length : Int)) := by
  rintro ⟨h1, h2⟩
  have hL := bytes_length k bd
  have hU := up_length k bd
  have key := ok_sum h1 (by rw [h2, List.length_set])
  rw [List.length_set] at key
  obtain ⟨M, hM⟩ : ∃ M, (bytes k bd).length - 4 = M := ⟨_, rfl⟩
  rw [hM] at key
  have hUM : (up k bd).length = M := by omega
  have ht : (bytes k bd).take M = up k bd := by unfold bytes; rw [← hUM, List.take_left]
  have hd : (bytes k bd).drop M = sum4 (Crc.update 0 (up k bd)) := by unfold bytes; rw [← hUM, List.drop_left]
  by_cases hlt : j < M
  · rw [List.drop_set_of_lt hlt, hd, List.take_set, ht] at key
    have h3 := sum4_inj (Crc.update_lt (by omega) _) (Crc.update_lt (by omega) _) key
    refine Crc.flip_ne (up k bd) (j := j) (by omega) y p ?_ hp h3.symm
    rw [hy]
    congr 1
    simp only [← ht, List.getElem_take]
  · rw [List.take_set_of_le (by omega), ht, ← hd] at key
    have h3 := congrArg (fun l : List UInt8 => l[j - M]?) key
    simp only [List.getElem?_drop, show M + (j - M) = j by omega] at h3
    rw [List.getElem?_set_self hj, List.getElem?_eq_getElem hj] at h3
    injection h3 with h3
    rw [hy] at h3
    apply hp
    have h4 := congrArg (fun z => z ^^^ (bytes k bd)[j]) h3
    simp only [UInt8.xor_self] at h4
    rwa [Crc.xor_cancel] at h4
theorem one_law (b : List UInt8) (h : ¬ ((take b 0).2.2.2 = 0 ∧ (take b 0).2.2.1 = (b.length : Int))) : (one b).2.2 ≠ 0 := by
  unfold one
  by_cases h0 : (take b 0).2.2.2 = 0
  · rw [if_neg (by simpa using h0)]
    have hb := (take_bound b 0 h0).1
    rw [if_pos (by
      rcases Int.lt_or_eq_of_le hb with h1 | h1
      · exact h1
      · exact absurd ⟨h0, h1⟩ h)]
    simp
  · rw [if_pos h0]
    exact h0
end Fra
theorem pick_law (z N : Int) (hN : 0 < N) : ((z.tmod N) + N).tmod N = z % N ∧ -N < z.tmod N ∧ z.tmod N < N := by
  have h1 : z.tmod N < N := Int.tmod_lt_of_pos z hN
  have h2 : -N < z.tmod N := by
    rcases Int.lt_or_le z 0 with h0 | h0
    · have h3 : (-z).tmod N < N := Int.tmod_lt_of_pos (-z) hN
      rw [Int.neg_tmod] at h3
      omega
    · have h3 : 0 ≤ z.tmod N := Int.tmod_nonneg N h0
      omega
  refine ⟨?_, h2, h1⟩
  rw [Int.tmod_eq_emod_of_nonneg (by omega), Int.add_emod_right]
  have h3 : z = N * z.tdiv N + z.tmod N := (Int.mul_tdiv_add_tmod z N).symm
  conv => rhs; rw [h3]
  rw [Int.mul_add_emod_self_left]
end Go.Proofs.Ytnncohajlmbedaa
