/-
  Files in parts: what a failure keeps. Plain Lean, no function of the program in sight.
-/
import Derived.Test.YtankhjchdnfpfaaExtRefFail
namespace Go.Proofs.Ytankhjchdnfpfaa
open Go.RowKit
namespace Exn
theorem length_bytes_append (a b : List Pa) : (bytes (a ++ b)).length = (bytes a).length + (bytes b).length := by rw [bytes_append, List.length_append]
/-- Noughts in the place of some. -/
def Nt (x y : List UInt8) : Prop := x.length = y.length ∧ ∀ i : Nat, x[i]? = y[i]? ∨ x[i]? = some 0
theorem Nt.refl (x : List UInt8) : Nt x x := ⟨rfl, fun _ => .inl rfl⟩
theorem Nt.append {x y x' y' : List UInt8} (h : Nt x y) (h' : Nt x' y') : Nt (x ++ x') (y ++ y') := by
  refine ⟨by rw [List.length_append, List.length_append, h.1, h'.1], fun i => ?_⟩
  by_cases hi : i < x.length
  · rw [List.getElem?_append_left hi, List.getElem?_append_left (by rw [← h.1]; exact hi)]
    exact h.2 i
  · rw [List.getElem?_append_right (by omega), List.getElem?_append_right (by rw [← h.1]; omega), h.1]
    exact h'.2 _
theorem Nt.zero (x : List UInt8) : Nt (List.replicate x.length 0) x := by
  refine ⟨List.length_replicate, fun i => ?_⟩
  by_cases hi : i < x.length
  · right; simp [hi]
  · left; simp [hi]
theorem zip_nt (fs : List Pa) (S : List Bool) (h : S.length = fs.length) : Nt (bytes (List.zipWith after fs S)) (bytes fs) := by
  induction fs generalizing S with
  | nil => simp; exact Nt.refl _
  | cons p ps ih =>
    cases S with
    | nil => cases h
    | cons s ss =>
      have e1 : bytes (List.zipWith after (p :: ps) (s :: ss)) = (after p s).1 ++ bytes (List.zipWith after ps ss) := rfl
      have e2 : bytes (p :: ps) = p.1 ++ bytes ps := rfl
      rw [e1, e2]
      refine Nt.append ?_ (ih ss (by simpa using h))
      unfold after
      cases s
      · exact Nt.zero _
      · exact Nt.refl _
theorem zip_true (fs : List Pa) (S : List Bool) (h : S.length = fs.length) (ht : ∀ s ∈ S, s = true) : bytes (List.zipWith after fs S) = bytes fs := by
  induction fs generalizing S with
  | nil => rfl
  | cons p ps ih =>
    cases S with
    | nil => cases h
    | cons s ss =>
      have e1 : bytes (List.zipWith after (p :: ps) (s :: ss)) = (after p s).1 ++ bytes (List.zipWith after ps ss) := rfl
      have e2 : bytes (p :: ps) = p.1 ++ bytes ps := rfl
      have hs := ht s List.mem_cons_self
      subst hs
      rw [e1, e2, ih ss (by simpa using h) (fun s hs => ht s (List.mem_cons_of_mem _ hs))]
      rfl
theorem lastOf_true (S : List Bool) (h : ∀ s ∈ S, s = true) : lastOf S = S.length := by
  unfold lastOf
  have : S.reverse.dropWhile (fun b => !b) = S.reverse := by
    cases hr : S.reverse with
    | nil => rfl
    | cons x xs =>
      have hx : x = true := h x (by rw [← List.mem_reverse, hr]; exact List.mem_cons_self)
      subst hx
      rfl
  rw [this, List.length_reverse]
theorem lastOf_append (A B : List Bool) (h : ∀ s ∈ A, s = true) : A.length ≤ lastOf (A ++ B) := by
  have key : ∀ C : List Bool, A.length ≤ lastOf (A ++ C.reverse) := by
    intro C
    induction C with
    | nil => simp [lastOf_true A h]
    | cons c C ih =>
      rw [List.reverse_cons, ← List.append_assoc, lastOf_snoc]
      cases c
      · exact ih
      · simp
        omega
  have := key B.reverse
  rwa [List.reverse_reverse] at this
/-- Is every one told to stay? -/
def allB (ks : List Bool) (n : Nat) : Bool := (List.range n).all fun i => (ks[i]?).getD false
theorem allB_succ (ks : List Bool) (n : Nat) : allB ks (n + 1) = (allB ks n && (ks[n]?).getD false) := by
  unfold allB
  rw [List.range_succ, List.all_append]
  simp
theorem stays_dur (a b : List Pa) (ks : List Bool) (h : ∀ p ∈ a, p.2 = true) : stays (a ++ b) ks = List.replicate a.length true ++ stays b ks := by
  induction a with
  | nil => rfl
  | cons p ps ih =>
    have hp := h p List.mem_cons_self
    rw [List.cons_append]
    show (p.2 || ks.headD false) :: stays (ps ++ b) (if p.2 then ks else ks.tail) = _
    rw [hp, if_pos rfl, ih (fun q hq => h q (List.mem_cons_of_mem _ hq)), List.length_cons, List.replicate_succ]
    rfl
theorem stays_vol (b : List Pa) (ks : List Bool) (h : ∀ p ∈ b, p.2 = false) : stays b ks = (List.range b.length).map fun i => (ks[i]?).getD false := by
  induction b generalizing ks with
  | nil => rfl
  | cons p ps ih =>
    have hp := h p List.mem_cons_self
    show (p.2 || ks.headD false) :: stays ps (if p.2 then ks else ks.tail) = _
    rw [hp, if_neg (by simp), ih ks.tail (fun q hq => h q (List.mem_cons_of_mem _ hq)), List.length_cons, List.range_succ_eq_map, List.map_cons, List.map_map]
    congr 1
    · cases ks <;> rfl
    · apply List.map_congr_left
      intro i _
      simp [List.getElem?_tail]
theorem bytes_sync (fs : List Pa) : bytes (sync fs) = bytes fs := by
  rw [← bytes_tidy fs]
  unfold sync bytes
  rw [List.flatMap_map]
theorem sync_solid (fs : List Pa) : ∀ p ∈ sync fs, p.2 = true ∧ 0 < p.1.length := by
  intro p hp
  unfold sync at hp
  obtain ⟨q, hq, rfl⟩ := List.mem_map.1 hp
  exact ⟨rfl, (tidy_mem hq).2⟩
theorem fail_solid (g : List Pa) (ks : List Bool) (h : ∀ p ∈ g, p.2 = true ∧ 0 < p.1.length) : fail g ks = g := by
  have h1 : tidy g = g := tidy_all fun p hp => (h p hp).2
  have h2 : stays g ks = List.replicate g.length true := by
    have := stays_dur g [] ks (fun p hp => (h p hp).1)
    rw [List.append_nil] at this
    rw [this]
    simp [stays]
  unfold fail
  rw [h1, h2, lastOf_true _ (fun s hs => (List.mem_replicate.1 hs).2), List.length_replicate]
  have h3 : List.zipWith after g (List.replicate g.length true) = g := by
    clear h1 h2
    induction g with
    | nil => rfl
    | cons p ps ih =>
      rw [List.length_cons, List.replicate_succ, List.zipWith_cons_cons, ih (fun q hq => h q (List.mem_cons_of_mem _ hq))]
      have hp := (h p List.mem_cons_self).1
      obtain ⟨x, y⟩ := p
      simp only at hp
      subst hp
      rfl
  rw [h3, List.take_length]
/-- All up to the last durable part is sure. -/
def Sure (fs : List Pa) (s : Nat) : Prop := tidy fs = fs ∧ ∃ a b, fs = a ++ b ∧ (∀ p ∈ a, p.2 = true) ∧ (∀ p ∈ b, p.2 = false) ∧ (bytes a).length = s
theorem sure_nil : Sure [] 0 := ⟨rfl, [], [], rfl, by simp, by simp, rfl⟩
theorem sure_sync (fs : List Pa) : Sure (sync fs) (bytes (sync fs)).length :=
  ⟨tidy_all fun p hp => (sync_solid fs p hp).2, sync fs, [], by simp, fun p hp => (sync_solid fs p hp).1, by simp, rfl⟩
theorem sure_app {fs : List Pa} {s : Nat} (h : Sure fs s) (x : List UInt8) : Sure (app fs x) s := by
  obtain ⟨h1, a, b, rfl, h2, h3, h4⟩ := h
  refine ⟨by unfold app; rw [tidy_tidy], a, b ++ tidy [(x, false)], ?_, h2, fun p hp => ?_, h4⟩
  · rw [← List.append_assoc]
    unfold app
    rw [tidy_append, h1]
  · rcases List.mem_append.1 hp with hp | hp
    · exact h3 p hp
    · have := (tidy_mem hp).1
      rw [List.mem_singleton] at this
      rw [this]
theorem fail_durable (fs : List Pa) (ks : List Bool) : ∀ p ∈ fail fs ks, p.2 = true ∧ 0 < p.1.length := by
  intro p hp
  obtain ⟨j, hj, rfl⟩ := List.mem_iff_getElem.1 hp
  have h1 := fail_length fs ks
  have h2 := lastOf_le (stays (tidy fs) ks)
  have h3 := stays_length (tidy fs) ks
  rw [fail_get hj (by omega) (by omega)]
  refine ⟨rfl, ?_⟩
  have hp := (tidy_mem (List.getElem_mem (show j < (tidy fs).length by omega))).2
  unfold after
  cases (stays (tidy fs) ks)[j]'(by omega) <;> simpa using hp
theorem vol_solid (g : List Pa) (h : ∀ p ∈ g, p.2 = true) : vol g = 0 := by
  unfold vol
  rw [List.length_eq_zero_iff, List.filter_eq_nil_iff]
  intro p hp
  rw [h p hp]
  simp
theorem vol_sure {a b : List Pa} (ht : tidy (a ++ b) = a ++ b) (ha : ∀ p ∈ a, p.2 = true) (hb : ∀ p ∈ b, p.2 = false) : vol (a ++ b) = b.length := by
  unfold vol
  rw [List.filter_append, List.length_append]
  have h1 : (a.filter fun p => !p.2 && some_ p) = [] := by
    rw [List.filter_eq_nil_iff]
    intro p hp
    rw [ha p hp]
    simp
  have h2 : (b.filter fun p => !p.2 && some_ p) = b := by
    rw [List.filter_eq_self]
    intro p hp
    have hm : p ∈ tidy (a ++ b) := by rw [ht]; exact List.mem_append_right _ hp
    have := (tidy_mem hm).2
    rw [hb p hp]
    unfold some_
    simpa using this
  rw [h1, h2]
  simp
/-- What a failure leaves. -/
theorem keeps {fs : List Pa} {s : Nat} (h : Sure fs s) (ks : List Bool) :
    (bytes (fail fs ks)).length ≤ (bytes fs).length ∧ s ≤ (bytes (fail fs ks)).length ∧ (allB ks (vol fs) = true → (bytes (fail fs ks)).length = (bytes fs).length) ∧
    ∀ i (h1 : i < (bytes (fail fs ks)).length) (h2 : i < (bytes fs).length), (bytes (fail fs ks))[i] = (bytes fs)[i] ∨ ((bytes (fail fs ks))[i] = 0 ∧ s ≤ i ∧ allB ks (vol fs) = false) := by
  obtain ⟨ht, a, b, rfl, ha, hb, hs⟩ := h
  have hv := vol_sure ht ha hb
  have hS : stays (a ++ b) ks = List.replicate a.length true ++ stays b ks := stays_dur a b ks ha
  have hSl := stays_length (a ++ b) ks
  have hZ : fail (a ++ b) ks = (List.zipWith after (a ++ b) (stays (a ++ b) ks)).take (lastOf (stays (a ++ b) ks)) := by
    unfold fail
    rw [ht]
  have hnt := zip_nt (a ++ b) (stays (a ++ b) ks) hSl
  have hall : allB ks (vol (a ++ b)) = true → ∀ x ∈ stays (a ++ b) ks, x = true := by
    intro h0 x hx
    rw [hS, stays_vol b ks hb] at hx
    rcases List.mem_append.1 hx with hx | hx
    · exact (List.mem_replicate.1 hx).2
    · obtain ⟨i, hi, rfl⟩ := List.mem_map.1 hx
      rw [hv] at h0
      exact List.all_eq_true.1 h0 i hi
  have hL : a.length ≤ lastOf (stays (a ++ b) ks) := by
    rw [hS]
    have := lastOf_append (List.replicate a.length true) (stays b ks) (fun s hs => (List.mem_replicate.1 hs).2)
    simpa using this
  have hzz : List.zipWith after (a ++ b) (stays (a ++ b) ks) = List.zipWith after a (List.replicate a.length true) ++ List.zipWith after b (stays b ks) := by
    rw [hS, List.zipWith_append (by simp)]
  have hba : bytes (List.zipWith after a (List.replicate a.length true)) = bytes a := zip_true a _ (by simp) (fun s hs => (List.mem_replicate.1 hs).2)
  obtain ⟨Z, hZe⟩ : ∃ Z, List.zipWith after (a ++ b) (stays (a ++ b) ks) = Z := ⟨_, rfl⟩
  rw [hZe] at hZ hnt hzz
  obtain ⟨L, hLe⟩ : ∃ L, lastOf (stays (a ++ b) ks) = L := ⟨_, rfl⟩
  rw [hLe] at hZ hL
  have hsplit : bytes Z = bytes (fail (a ++ b) ks) ++ bytes (Z.drop L) := by
    rw [hZ, ← bytes_append, List.take_append_drop]
  have hlen : (bytes Z).length = (bytes (fail (a ++ b) ks)).length + (bytes (Z.drop L)).length := by rw [hsplit, List.length_append]
  have hza : (List.zipWith after a (List.replicate a.length true)).length = a.length := by simp
  have hge : s ≤ (bytes (fail (a ++ b) ks)).length := by
    rw [hZ, hzz, List.take_append, bytes_append, List.length_append, List.take_of_length_le (by omega), hba, hs]
    omega
  have hcell : ∀ i, i < (bytes (fail (a ++ b) ks)).length → (bytes (fail (a ++ b) ks))[i]? = (bytes Z)[i]? := by
    intro i hi
    rw [hsplit, List.getElem?_append_left hi]
  refine ⟨by rw [← hnt.1, hlen]; omega, hge, fun h0 => ?_, fun i h1 h2 => ?_⟩
  · have h3 := lastOf_true _ (hall h0)
    rw [hLe] at h3
    have h4 : Z.drop L = [] := by
      rw [List.drop_eq_nil_iff, ← hZe, List.length_zipWith, hSl, h3, hSl]
      omega
    rw [h4] at hlen
    rw [← hnt.1, hlen]
    rfl
  · have h3 := hcell i h1
    rw [List.getElem?_eq_getElem h1] at h3
    by_cases hi : i < s
    · left
      have h4 : (bytes Z)[i]? = (bytes (a ++ b))[i]? := by
        rw [hzz, bytes_append, bytes_append, hba, List.getElem?_append_left (by omega), List.getElem?_append_left (by omega)]
      rw [h4, List.getElem?_eq_getElem h2] at h3
      injection h3
    · cases h0 : allB ks (vol (a ++ b)) with
      | true =>
        left
        have h4 := zip_true (a ++ b) _ hSl (hall h0)
        rw [hZe] at h4
        rw [h4, List.getElem?_eq_getElem h2] at h3
        injection h3
      | false =>
        rcases hnt.2 i with h4 | h4
        · left
          rw [h4, List.getElem?_eq_getElem h2] at h3
          injection h3
        · right
          rw [h4] at h3
          injection h3 with h3
          exact ⟨h3, by omega, rfl⟩
theorem fail_again (fs : List Pa) (ks ks' : List Bool) : fail (fail fs ks) ks' = fail fs ks := fail_solid _ _ (fail_durable fs ks)
theorem fail_vol (fs : List Pa) (ks : List Bool) : vol (fail fs ks) = 0 := vol_solid _ fun p hp => (fail_durable fs ks p hp).1
theorem all_back (g : List Pa) (x : List UInt8) (ks : List Bool) : (bytes (fail (sync (app g x)) ks)).length = (bytes g).length + x.length := by
  rw [fail_solid _ _ (sync_solid _), bytes_sync]
  unfold app
  rw [bytes_tidy, bytes_append, List.length_append, bytes_one]
end Exn
end Go.Proofs.Ytankhjchdnfpfaa
