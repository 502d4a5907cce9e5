/-
  Journals: what is whole is the payloads' frames; what is appended is got. No function of the program in sight.
-/
import Derived.Test.YtnncohajlmbedaaJouPlain
namespace Go.Proofs.Ytnncohajlmbedaa
open Go.RowKit
namespace Fra
/-- What is read is what was written. -/
theorem take_is {b : List UInt8} {q : Nat} {k : UInt8} {bd : List UInt8} {nx : Int} (h : take b (q : Nat) = (k, bd, nx, 0)) :
    bd.length ≤ 65535 ∧ nx = ((q + (bytes k bd).length : Nat) : Int) ∧ q + (bytes k bd).length ≤ b.length ∧ (b.drop q).take (bytes k bd).length = bytes k bd := by
  rcases way b (q : Nat) with ⟨h0, e⟩ | ⟨q', hp, hq, x, hx, hv, e⟩ | ⟨q', v, s, hp, hq, hv, hs, hs2, hbig, h64, e⟩ | ⟨q', v, s, hp, hq, hv, hs, hs2, hbig, hlen, e⟩ | ⟨q', v, s, hp, hq, hv, hs, hs2, hbig, hlen, hsum, e⟩ | ⟨q', v, s, hp, hq, hv, hs, hs2, hbig, hlen, hsum, e⟩
  · rw [e] at h; simp at h
  · rw [e] at h; simp at h; omega
  · rw [e] at h; simp at h
  · rw [e] at h; simp at h
  · rw [e] at h; simp at h
  · obtain rfl : q = q' := by omega
    rw [e] at h
    simp only [Prod.mk.injEq] at h
    obtain ⟨h1, h2, h3, _⟩ := h
    obtain ⟨g1, g2⟩ := bytes_at hq hv hs hlen
    rw [h1, h2] at g1 g2
    have g3 := g2.2 hsum
    have h4 : bd.length = v := by rw [← h2, List.length_drop, List.length_take]; omega
    refine ⟨by omega, by rw [← h3, g1]; congr 1; omega, by rw [g1]; omega, by rw [g1]; exact g3⟩
end Fra
namespace Jou
theorem allF_cat (b : List UInt8) : ∀ (f p : Nat), p ≤ b.length → cat (allF b f p).1 = (b.take (allF b f p).2).drop p ∧ p ≤ (allF b f p).2 ∧ (allF b f p).2 ≤ b.length ∧ (allF b f p).1.length + p ≤ (allF b f p).2 ∧ ∀ l ∈ (allF b f p).1, l.length ≤ 65535
  | 0, p, hp => by
    refine ⟨?_, Nat.le_refl _, hp, by simp [allF], by simp [allF]⟩
    simp [allF, cat, frs, Fra.cat]
  | f + 1, p, hp => by
    by_cases h0 : (next b (p : Nat)).2.2 = 0
    · obtain ⟨bd, nx, x, hn⟩ : ∃ bd nx x, next b (p : Nat) = (bd, nx, x) := ⟨_, _, _, rfl⟩
      rw [hn] at h0
      simp only at h0
      subst h0
      have ht := next_take (b := b) (p := (p : Nat)) (by rw [hn])
      rw [hn] at ht
      simp only at ht
      obtain ⟨h1, h2, h3, h4⟩ := Fra.take_is ht
      obtain ⟨N, hN⟩ : ∃ N, p + (Fra.bytes 9 bd).length = N := ⟨_, rfl⟩
      rw [hN] at h2 h3
      subst h2
      rw [allF_go hn]
      obtain ⟨i1, i2, i3, i4, i5⟩ := allF_cat b f N h3
      have hL := Fra.bytes_length 9 bd
      refine ⟨?_, by simp only; omega, i3, by simp only [List.length_cons]; omega, ?_⟩
      · simp only
        have e : cat (bd :: (allF b f N).1) = Fra.bytes 9 bd ++ cat (allF b f N).1 := by
          rw [← cat_one, ← cat_append]; rfl
        rw [e, i1, ← h4]
        obtain ⟨K, hK⟩ : ∃ K, (allF b f N).2 = K := ⟨_, rfl⟩
        rw [hK] at i2 i3 ⊢
        have e2 : N = p + (Fra.bytes 9 bd).length := hN.symm
        rw [e2, List.drop_take, List.drop_take, ← List.drop_drop]
        conv => rhs; rw [← List.take_append_drop (Fra.bytes 9 bd).length ((b.drop p).take (K - p))]
        rw [List.take_take, List.drop_take, Nat.min_eq_left (by omega)]
        congr 2
        omega
      · intro l hl
        simp only [List.mem_cons] at hl
        rcases hl with rfl | hl
        · exact h1
        · exact i5 l hl
    · rw [allF_stop h0]
      refine ⟨?_, Nat.le_refl _, hp, by simp, by simp⟩
      simp [cat, frs, Fra.cat]
theorem all_cat (b : List UInt8) : cat (all b).1 = b.take (all b).2 ∧ (all b).2 ≤ b.length ∧ (all b).1.length ≤ b.length ∧ ∀ l ∈ (all b).1, l.length ≤ 65535 := by
  obtain ⟨h1, _, h3, h4, h5⟩ := allF_cat b (b.length + 1) 0 (Nat.zero_le _)
  rw [List.drop_zero] at h1
  exact ⟨h1, h3, by unfold all; omega, h5⟩
theorem frs_over (l : List (List UInt8)) (h : ∀ p ∈ l, p.length ≤ 65535) : Fra.over (frs l) = false := by
  refine Fra.over_not fun j hj => ?_
  have hj2 : j < l.length := by rw [frs_length] at hj; exact hj
  rw [frs_get hj2]
  exact h _ (List.getElem_mem hj2)
theorem join_one (p : List UInt8) : Fra.joinB (frs [p]) = Fra.putB 9 p ∧ Fra.joinE (frs [p]) = Fra.putE p := by
  have e : Fra.over (frs [p]) = decide (65535 < p.length) := by unfold Fra.over frs; simp
  unfold Fra.joinB Fra.joinE Fra.putB Fra.putE
  rw [e]
  by_cases h : 65535 < p.length
  · simp [h]
  · have := cat_one p
    unfold cat at this
    simp [h, this]
/-- What stands behind what is whole. -/
def appB (b p : List UInt8) : List UInt8 := if 65535 < p.length then [] else b.take (all b).2 ++ Fra.bytes 9 p
def appK (b p : List UInt8) : Nat := if 65535 < p.length then 0 else (all b).2
def appE (p : List UInt8) : Nat := if 65535 < p.length then 3 else 0
def appN (p : List UInt8) : Nat := if 65535 < p.length then 0 else p.length
def appS (p : List UInt8) : Nat := if 65535 < p.length then 0 else Crc.update 0 p
theorem join_snoc (b p : List UInt8) : Fra.joinB (frs ((all b).1 ++ [p])) = appB b p ∧ Fra.joinE (frs ((all b).1 ++ [p])) = appE p := by
  obtain ⟨h1, _, _, h4⟩ := all_cat b
  have e : Fra.over (frs ((all b).1 ++ [p])) = decide (65535 < p.length) := by
    have h5 := frs_over _ h4
    unfold Fra.over at h5 ⊢
    rw [frs_append, List.any_append, h5]
    unfold frs
    simp
  have hc : Fra.cat (frs ((all b).1 ++ [p])) = b.take (all b).2 ++ Fra.bytes 9 p := by
    have := cat_append (all b).1 [p]
    rw [h1, cat_one] at this
    exact this
  unfold Fra.joinB Fra.joinE appB appE
  rw [e, hc]
  by_cases h : 65535 < p.length <;> simp [h]
theorem join_all (b : List UInt8) : Fra.joinB (frs (all b).1) = b.take (all b).2 ∧ Fra.joinE (frs (all b).1) = 0 := by
  obtain ⟨h1, _, _, h4⟩ := all_cat b
  unfold Fra.joinB Fra.joinE
  rw [frs_over _ h4]
  exact ⟨by rw [if_neg (by simp)]; exact h1, by rw [if_neg (by simp)]⟩
/-! ### What is appended -/
theorem cat_snoc {l : List (List UInt8)} {j : Nat} (h : j < l.length) : cat (l.take (j + 1)) = cat (l.take j) ++ Fra.bytes 9 l[j] := by
  rw [List.take_succ_eq_append_getElem h, cat_append, cat_one]
/-- All that is read in payloads' frames, with anything behind them. -/
theorem at_cat (l : List (List UInt8)) (hl : ∀ p ∈ l, p.length ≤ 65535) (rest : List UInt8) : ∀ j, j ≤ l.length → At (cat l ++ rest) (l.take j) (cat (l.take j)).length := by
  intro j
  induction j with
  | zero => intro _; exact At.start _
  | succ j ih =>
    intro hj
    have hjl : j < l.length := by omega
    have h1 := ih (by omega)
    have e : cat l ++ rest = cat (l.take j) ++ (Fra.bytes 9 l[j] ++ (cat (l.drop (j + 1)) ++ rest)) := by
      have h2 : cat l = cat (l.take j) ++ (cat [l[j]] ++ cat (l.drop (j + 1))) := by
        rw [← cat_append, ← cat_append]
        congr 1
        conv => lhs; rw [← List.take_append_drop j l, List.drop_eq_getElem_cons hjl]
        rfl
      rw [h2, cat_one]
      simp
    have ht := Fra.take_bytes (cat (l.take j)) (cat (l.drop (j + 1)) ++ rest) 9 l[j] (hl _ (List.getElem_mem hjl))
    rw [← e] at ht
    have h3 := (h1.step (next_of ht)).1
    rw [cat_snoc hjl, List.length_append, List.take_succ_eq_append_getElem hjl]
    exact h3
theorem all_whole (l : List (List UInt8)) (hl : ∀ p ∈ l, p.length ≤ 65535) : all (cat l) = (l, (cat l).length) := by
  have h := at_cat l hl [] l.length (Nat.le_refl _)
  rw [List.append_nil, List.take_of_length_le (Nat.le_refl _)] at h
  exact h.stop (next_end (Nat.le_refl _))
theorem whole_more (l : List (List UInt8)) (hl : ∀ p ∈ l, p.length ≤ 65535) (rest : List UInt8) : (cat l).length ≤ (all (cat l ++ rest)).2 := by
  have h := at_cat l hl rest l.length (Nat.le_refl _)
  rw [List.take_of_length_le (Nat.le_refl _)] at h
  obtain ⟨_, _, f, _, h4⟩ := h
  have := (allF_cat (cat l ++ rest) f (cat l).length (by rw [List.length_append]; omega)).2.1
  have h5 := congrArg Prod.snd h4
  simp only at h5
  omega
end Jou
end Go.Proofs.Ytnncohajlmbedaa
