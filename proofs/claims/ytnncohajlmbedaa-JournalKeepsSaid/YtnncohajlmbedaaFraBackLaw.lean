/-
  Frames: what is written is read as it was, whatever stands ahead and behind. No function of the program in sight.
-/
import Derived.Test.YtnncohajlmbedaaFraJoin
namespace Go.Proofs.Ytnncohajlmbedaa
open Go.RowKit
namespace Fra
theorem take_bytes (pre rest : List UInt8) (k : UInt8) (bd : List UInt8) (h : bd.length ≤ 65535) :
    take (pre ++ (bytes k bd ++ rest)) (pre.length : Nat) = (k, bd, ((pre.length + (bytes k bd).length : Nat) : Int), 0) := by
  have hL := bytes_length k bd
  have hh := head_length k bd
  obtain ⟨b, hb⟩ : ∃ b, pre ++ (bytes k bd ++ rest) = b := ⟨_, rfl⟩
  have hbl : b.length = pre.length + ((bytes k bd).length + rest.length) := by rw [← hb, List.length_append, List.length_append]
  have hq : pre.length < b.length := by omega
  have e1 : b = (pre ++ [k]) ++ (Var.put bd.length ++ (bd ++ sum4 (Crc.update 0 (up k bd)) ++ rest)) := by
    rw [← hb]; unfold bytes up head; simp
  have hv := Var.take_put (pre ++ [k]) (bd ++ sum4 (Crc.update 0 (up k bd)) ++ rest) bd.length (by omega)
  rw [← e1, List.length_append, List.length_singleton] at hv
  have hv2 : Var.take b ((pre.length : Int) + 1) = (bd.length, ((pre.length + 1 + (Var.put bd.length).length : Nat) : Int), 0) := by
    rw [← hv]; congr 1
  have hbq : b[pre.length] = k := by
    have h1 : b[pre.length]? = some k := by rw [← hb, List.getElem?_append_right (Nat.le_refl _)]; simp [bytes, up, head]
    rw [List.getElem?_eq_getElem hq] at h1
    injection h1
  have hbd : (b.take (pre.length + 1 + (Var.put bd.length).length + bd.length)).drop (pre.length + 1 + (Var.put bd.length).length) = bd := by
    rw [e1, ← List.append_assoc]
    have e2 : (pre ++ [k] ++ Var.put bd.length).length = pre.length + 1 + (Var.put bd.length).length := by simp; omega
    rw [← e2, List.take_length_add_append, List.drop_left]
    rw [List.append_assoc bd, List.take_left]
  have hput := (Var.put_length bd.length).1
  have hlen : pre.length + 1 + (Var.put bd.length).length + bd.length + 4 ≤ b.length := by omega
  have hat := bytes_at hq hv2 (by omega) hlen
  rw [hbq, hbd] at hat
  have hsum := hat.2.1 (by
    rw [← hat.1, ← hb, List.drop_left, List.take_left])
  rw [hb]
  unfold take
  rw [if_neg (by omega), hv2]
  simp only [Int.toNat_natCast]
  rw [if_neg (by simp), if_neg (by omega), if_neg (by omega), if_pos hsum, hbd]
  have h3 : b.getD pre.length 0 = k := by simp [List.getD, hq, hbq]
  rw [h3]
  congr 3
  omega
theorem tk_app : ∀ (l m : List UInt8) (i n : Nat), (Var.tk l i n).1 = 0 → Var.tk (l ++ m) i n = Var.tk l i n
  | [], m, i, n, h => by simp [Var.tk_nil] at h
  | c :: l, m, i, n, h => by
    rw [List.cons_append]
    by_cases h1 : (i = 9 ∧ 1 < c.toNat) ∨ (c.toNat < 128 ∧ c.toNat = 0 ∧ 0 < i)
    · rw [Var.tk_long h1] at h
      simp at h
    · by_cases hc : c.toNat < 128
      · rw [Var.tk_last h1 hc, Var.tk_last h1 hc]
      · rw [Var.tk_more h1 hc] at h ⊢
        rw [Var.tk_more h1 hc]
        exact tk_app l m _ _ h
theorem vtake_app {b : List UInt8} (m : List UInt8) {p v s : Nat} (h : Var.take b (p : Nat) = (v, (s : Int), 0)) : Var.take (b ++ m) (p : Nat) = (v, (s : Int), 0) := by
  unfold Var.take at h ⊢
  by_cases h0 : ((p : Nat) : Int) < 0 ∨ (b.length : Int) ≤ (p : Nat)
  · rw [if_pos h0] at h
    simp at h
  · rw [if_neg h0] at h
    rw [if_neg (by rw [List.length_append]; omega)]
    rw [Int.toNat_natCast] at h ⊢
    rw [List.drop_append_of_le_length (by omega)]
    by_cases h1 : (Var.tk (b.drop p) 0 0).1 = 0
    · rw [tk_app _ m _ _ h1]
      exact h
    · rw [if_neg h1] at h
      simp only [Prod.mk.injEq] at h
      exact absurd h.2.2 h1
/-- Of a frame that is cut no frame is read. -/
theorem take_cut (pre : List UInt8) (k : UInt8) (bd : List UInt8) (h : bd.length ≤ 65535) {n : Nat} (hn : n < (bytes k bd).length) :
    (take (pre ++ (bytes k bd).take n) (pre.length : Nat)).2.2.2 ≠ 0 := by
  intro h0
  rcases way (pre ++ (bytes k bd).take n) (pre.length : Nat) with ⟨_, e⟩ | ⟨q, hp, hq, x, hx, hv, e⟩ | ⟨q, v, s, hp, hq, hv, hs, hs2, hbig, h64, e⟩ | ⟨q, v, s, hp, hq, hv, hs, hs2, hbig, hlen, e⟩ | ⟨q, v, s, hp, hq, hv, hs, hs2, hbig, hlen, hsum, e⟩ | ⟨q, v, s, hp, hq, hv, hs, hs2, hbig, hlen, hsum, e⟩
  · rw [e] at h0; simp at h0
  · rw [e] at h0; simp only at h0; omega
  · rw [e] at h0; simp at h0
  · rw [e] at h0; simp at h0
  · rw [e] at h0; simp at h0
  · obtain rfl : pre.length = q := by omega
    have h1 := vtake_app ((bytes k bd).drop n) (p := pre.length + 1) (v := v) (s := s) (by rw [Int.natCast_add]; exact hv)
    rw [List.append_assoc, List.take_append_drop] at h1
    have e1 : pre ++ bytes k bd = (pre ++ [k]) ++ (Var.put bd.length ++ (bd ++ sum4 (Crc.update 0 (up k bd)))) := by
      unfold bytes up head; simp
    have h2 := Var.take_put (pre ++ [k]) (bd ++ sum4 (Crc.update 0 (up k bd))) bd.length (by omega)
    rw [← e1, List.length_append, List.length_singleton, h1] at h2
    simp only [Prod.mk.injEq] at h2
    have hL := bytes_length k bd
    have hh := head_length k bd
    rw [List.length_append, List.length_take] at hlen
    omega
theorem cat_append (a c : List Fr) : cat (a ++ c) = cat a ++ cat c := by unfold cat; rw [List.flatMap_append]
theorem cat_mono (fs : List Fr) {i j : Nat} (h : i ≤ j) : (cat (fs.take i)).length ≤ (cat (fs.take j)).length := by
  have e : fs.take j = fs.take i ++ (fs.take j).drop i := by
    conv => lhs; rw [← List.take_append_drop i (fs.take j), List.take_take, Nat.min_eq_left h]
  rw [e, cat_append, List.length_append]
  omega
theorem cat_split (fs : List Fr) {i : Nat} (h : i < fs.length) : cat fs = cat (fs.take i) ++ (bytes fs[i].1 fs[i].2 ++ cat (fs.drop (i + 1))) := by
  conv => lhs; rw [← List.take_append_drop i fs, cat_append, List.drop_eq_getElem_cons h]
  congr 1
theorem all_cut (fs : List Fr) (hf : ∀ a (ha : a < fs.length), fs[a].2.length ≤ 65535) {n j : Nat} (hn : n ≤ (cat fs).length) (hj : j ≤ fs.length) (hg : (cat (fs.take j)).length ≤ n)
    (hs : j = fs.length ∨ ∃ h : j < fs.length, n < (cat (fs.take j)).length + (bytes fs[j].1 fs[j].2).length) : all ((cat fs).take n) = (fs.take j, (cat (fs.take j)).length) := by
  have hat : ∀ i, i ≤ j → At ((cat fs).take n) (fs.take i) (cat (fs.take i)).length := by
    intro i
    induction i with
    | zero => intro _; exact At.start _
    | succ i ih =>
      intro hi
      have hil : i < fs.length := by omega
      have h1 := ih (by omega)
      have h2 := cat_mono fs hi
      have h3 := cat_snoc hil
      have h4 : (cat (fs.take (i + 1))).length = (cat (fs.take i)).length + (bytes fs[i].1 fs[i].2).length := by rw [h3, List.length_append]
      have e : (cat fs).take n = cat (fs.take i) ++ (bytes fs[i].1 fs[i].2 ++ (cat (fs.drop (i + 1))).take (n - (cat (fs.take (i + 1))).length)) := by
        rw [cat_split fs hil, List.take_append, List.take_append, List.take_of_length_le (l := cat (fs.take i)) (by omega), List.take_of_length_le (l := bytes fs[i].1 fs[i].2) (by omega), h4, Nat.sub_sub]
      have ht := take_bytes (cat (fs.take i)) ((cat (fs.drop (i + 1))).take (n - (cat (fs.take (i + 1))).length)) fs[i].1 fs[i].2 (hf i hil)
      rw [← e] at ht
      have h5 := (h1.step ht).1
      rw [List.take_succ_eq_append_getElem hil, ← List.take_succ_eq_append_getElem hil, h4]
      rw [List.take_succ_eq_append_getElem hil]
      exact h5
  refine (hat j (Nat.le_refl _)).stop ?_
  rcases hs with rfl | ⟨h1, h2⟩
  · refine take_end ?_
    rw [List.length_take]
    have e : fs.take fs.length = fs := List.take_of_length_le (Nat.le_refl _)
    rw [e] at hg ⊢
    omega
  · have e : (cat fs).take n = cat (fs.take j) ++ (bytes fs[j].1 fs[j].2).take (n - (cat (fs.take j)).length) := by
      rw [cat_split fs h1, List.take_append, List.take_append, List.take_of_length_le (l := cat (fs.take j)) (by omega)]
      rw [show n - (cat (fs.take j)).length - (bytes fs[j].1 fs[j].2).length = 0 by omega, List.take_zero, List.append_nil]
    rw [e]
    exact take_cut _ _ _ (hf j h1) (by omega)
end Fra
end Go.Proofs.Ytnncohajlmbedaa
