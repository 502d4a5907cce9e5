/-
  Leases: what the program's functions compute.
-/
import Derived.Test.YthknhgakompggaaProg
import Derived.Test.YthknhgakompggaaLeaPlain
import Derived.Test.YthknhgakompggaaAppend
import Derived.Laws.Externs
import Derived.BigQuiet
import Derived.Test.YthknhgakompggaaGrow
namespace Go.Proofs.Ythknhgakompggaa
open Go.RowKit
theorem add64_fit (w : World) (x y : Nat) (h : x + y < 18446744073709551616) :
    (callFunc 51 #[.int .u64 (x : Nat), .int .u64 (y : Nat), .int .u64 0]).run Try.prog w = .ok (.value (.tuple #[.int .u64 ((x : Int) + (y : Int)), .int .u64 0])) w := by
  rw [run_callFunc_extern Try.func51 (by kernel_rfl) (by kernel_rfl) (by kernel_rfl) (e := add64Entry) (by kernel_rfl), run_add64 x y 0 (by omega) (by omega) (by omega) (by omega)]
  have e1 : ((x : Int) + (y : Int) + 0) % 18446744073709551616 = (x : Int) + (y : Int) := by omega
  have e2 : ((x : Int) + (y : Int) + 0) / 18446744073709551616 = 0 := by omega
  rw [e1, e2]
  rfl
theorem add64_over (w : World) (x y : Nat) (hx : x < 18446744073709551616) (hy : y < 18446744073709551616) (h : ¬ x + y < 18446744073709551616) :
    (callFunc 51 #[.int .u64 (x : Nat), .int .u64 (y : Nat), .int .u64 0]).run Try.prog w = .ok (.value (.tuple #[.int .u64 ((x : Int) + (y : Int) - 18446744073709551616), .int .u64 1])) w := by
  rw [run_callFunc_extern Try.func51 (by kernel_rfl) (by kernel_rfl) (by kernel_rfl) (e := add64Entry) (by kernel_rfl), run_add64 x y 0 (by omega) (by omega) (by omega) (by omega)]
  have e1 : ((x : Int) + (y : Int) + 0) % 18446744073709551616 = (x : Int) + (y : Int) - 18446744073709551616 := by omega
  have e2 : ((x : Int) + (y : Int) + 0) / 18446744073709551616 = 1 := by omega
  rw [e1, e2]
  rfl

set_option maxHeartbeats 400000 in
theorem lea_until_any (w : World) (c d : Nat) (hc : c < 18446744073709551616) (hd : d < 18446744073709551616) :
    Calls Try.prog 22 #[.int .u64 (c : Nat), .int .u64 (d : Nat)] w fun en w' => en = .returned (.int .u64 (till c d : Nat)) ∧ Below w.heap.size w w' := by
  by_cases h : c + d < 18446744073709551616
  · have e1 : till c d = c + d := by unfold till; rw [if_pos h]
    rw [e1]
    clear e1
    go_enter Try.func22, Try.ntmps22
    go_wp2_with (simp only [add64_fit _ _ _ h])
    go_ret
    exact ⟨by simp, Below.refl _ _⟩
  · have e1 : till c d = 18446744073709551615 := by unfold till; rw [if_neg h]
    rw [e1]
    clear e1
    go_enter Try.func22, Try.ntmps22
    go_wp2_with (simp only [add64_over _ _ _ hc hd h])
    go_ret
    exact ⟨by simp, Below.refl _ _⟩

set_option maxHeartbeats 400000 in
theorem lea_over_any (w : World) (l : Ls) (hl : l.ok) (c s : Nat) (hs : s < 18446744073709551616) :
    Calls Try.prog 16 #[l.v, .int .u64 (c : Nat), .int .u64 (s : Nat)] w fun en w' => en = .returned (.bool (l.over c s)) ∧ Below w.heap.size w w' := by
  obtain ⟨ep, pr, inc, un, hd⟩ := l
  obtain ⟨h1, h2, h3, h4⟩ := hl
  simp only [Ls.v, Ls.over] at *
  by_cases h : un + s < 18446744073709551616
  · rw [decide_eq_true h, Bool.true_and, show decide (un + s < c) = decide ((un : Int) + (s : Int) < (c : Int)) from decide_eq_decide.2 (by omega)]
    cases hd
    all_goals
      go_enter Try.func16, Try.ntmps16
      go_wp2_with (simp only [add64_fit _ _ _ h])
      go_ret
      exact ⟨by simp, (Below.refl _ _).alloc (Nat.le_refl _) _⟩
  · rw [decide_eq_false h, Bool.false_and]
    cases hd
    all_goals
      go_enter Try.func16, Try.ntmps16
      go_wp2_with (simp only [add64_over _ _ _ h4 hs h])
      go_ret
      exact ⟨by simp, (Below.refl _ _).alloc (Nat.le_refl _) _⟩

theorem nat_beq_ne {a b : Nat} (h : ¬ a = b) : (((a : Nat) : Int) == ((b : Nat) : Int)) = false := by rw [int_beq]; exact decide_eq_false h

set_option maxHeartbeats 400000 in
theorem lea_owns_any (w : World) (l : Ls) (p i e : Nat) :
    Calls Try.prog 18 #[l.v, .int .u64 (p : Nat), .int .u64 (i : Nat), .int .u64 (e : Nat)] w fun en w' => en = .returned (.bool (l.owns p i e)) ∧ Below w.heap.size w w' := by
  obtain ⟨ep, pr, inc, un, hd⟩ := l
  simp only [Ls.v, Ls.owns]
  cases hd
  · go_enter Try.func18, Try.ntmps18
    go_wp2_with fail
    go_ret
    exact ⟨by simp, (Below.refl _ _).alloc (Nat.le_refl _) _⟩
  · by_cases hp : pr = p
    · subst hp
      by_cases hi : inc = i
      · subst hi
        rw [show decide (ep = e) = (((ep : Nat) : Int) == ((e : Nat) : Int)) from (int_beq _ _).symm]
        go_enter Try.func18, Try.ntmps18
        go_wp2_with fail
        go_ret
        exact ⟨by simp, (Below.refl _ _).alloc (Nat.le_refl _) _⟩
      · have e1 := nat_beq_ne hi
        rw [decide_eq_false hi]
        go_enter Try.func18, Try.ntmps18
        go_wp2_with fail
        go_ret
        exact ⟨by simp, (Below.refl _ _).alloc (Nat.le_refl _) _⟩
    · have e1 := nat_beq_ne hp
      rw [decide_eq_false hp]
      go_enter Try.func18, Try.ntmps18
      go_wp2_with fail
      go_ret
      exact ⟨by simp, (Below.refl _ _).alloc (Nat.le_refl _) _⟩

set_option maxHeartbeats 400000 in
theorem lea_fence_any (w : World) (l : Ls) (p i e : Nat) :
    Calls Try.prog 20 #[l.v, .int .u64 (p : Nat), .int .u64 (i : Nat), .int .u64 (e : Nat)] w fun en w' => en = .returned (.int .i64 (l.fence p i e : Nat)) ∧ Below w.heap.size w w' := by
  unfold Ls.fence
  cases ho : l.owns p i e
  all_goals
    have HO := Lib.hid ho
    clear ho
    obtain ⟨ep, pr, inc, un, hd⟩ := l
    simp only [Ls.v]
    go_enter Try.func20, Try.ntmps20
    go_wp2_with fail
    refine (lea_owns_any _ ⟨ep, pr, inc, un, hd⟩ p i e).mono ?_
    rintro e1 w1 ⟨rfl, hb1⟩
    rw [HO.out]
    go_wp2_with fail
    go_ret
    exact ⟨by simp, ((Below.refl _ _).alloc (Nat.le_refl _) _).trans (hb1.mono (by simp))⟩

set_option maxHeartbeats 400000 in
theorem lea_next_any (w : World) (l : Ls) (hl : l.ok) :
    Calls Try.prog 49 #[l.v] w fun en w' => en = .returned (.tuple #[.int .u64 (l.nextN : Nat), .int .i64 (l.nextE : Nat)]) ∧ Below w.heap.size w w' := by
  obtain ⟨ep, pr, inc, un, hd⟩ := l
  obtain ⟨h1, h2, h3, h4⟩ := hl
  simp only [Ls.v, Ls.nextN, Ls.nextE] at *
  by_cases h : ep = 18446744073709551615
  · subst h
    go_enter Try.func49, Try.ntmps49
    go_wp2_with fail
    go_ret2
    exact ⟨by simp, (Below.refl _ _).alloc (Nat.le_refl _) _⟩
  · have e1 : (((ep : Nat) : Int) == 18446744073709551615) = false := by simp; omega
    have e2 : IntKind.u64.wrap ((ep : Int) + 1) = (ep : Int) + 1 := by rw [IntKind.wrap_u64]; omega
    rw [if_neg h, if_neg h]
    go_enter Try.func49, Try.ntmps49
    go_wp2_with fail
    go_ret2
    exact ⟨by simp, (Below.refl _ _).alloc (Nat.le_refl _) _⟩

set_option maxHeartbeats 400000 in
theorem lea_try_any (w : World) (l : Ls) (hl : l.ok) (c s : Nat) (hs : s < 18446744073709551616) :
    Calls Try.prog 14 #[l.v, .int .u64 (c : Nat), .int .u64 (s : Nat)] w fun en w' => en = .returned (.tuple #[.int .u64 (l.tryN c s : Nat), .int .i64 (l.tryE c s : Nat)]) ∧ Below w.heap.size w w' := by
  unfold Ls.tryN Ls.tryE
  cases ho : l.over c s
  · have HO := Lib.hid ho
    clear ho
    obtain ⟨ep, pr, inc, un, hd⟩ := l
    have HL := Lib.hid hl
    clear hl
    simp only [Ls.v]
    go_enter Try.func14, Try.ntmps14
    go_wp2_with fail
    refine (lea_over_any _ ⟨ep, pr, inc, un, hd⟩ HL.out c s hs).mono ?_
    rintro e1 w1 ⟨rfl, hb1⟩
    rw [HO.out]
    go_wp2_with fail
    go_ret2
    exact ⟨by simp, ((Below.refl _ _).alloc (Nat.le_refl _) _).trans (hb1.mono (by simp))⟩
  · have HO := Lib.hid ho
    clear ho
    obtain ⟨n, hn⟩ : ∃ n, n = l.nextN := ⟨_, rfl⟩
    obtain ⟨m, hm⟩ : ∃ m, m = l.nextE := ⟨_, rfl⟩
    rw [← hn, ← hm]
    have HN := Lib.hid hn
    have HM := Lib.hid hm
    clear hn hm
    obtain ⟨ep, pr, inc, un, hd⟩ := l
    have HL := Lib.hid hl
    clear hl
    simp only [Ls.v]
    go_enter Try.func14, Try.ntmps14
    go_wp2_with fail
    refine (lea_over_any _ ⟨ep, pr, inc, un, hd⟩ HL.out c s hs).mono ?_
    rintro e1 w1 ⟨rfl, hb1⟩
    rw [HO.out]
    have hb2 := ((Below.refl w.heap.size w).alloc (Nat.le_refl _) (.cells #[.int .u64 (ep : Nat), .int .u64 (pr : Nat), .int .u64 (inc : Nat), .int .u64 (un : Nat), .bool hd] 24)).trans (hb1.mono (by simp))
    have hcl : ∀ i, w1.cell? ⟨w.heap.size, i, none⟩ = #[Value.int .u64 (ep : Nat), .int .u64 (pr : Nat), .int .u64 (inc : Nat), .int .u64 (un : Nat), .bool hd][i]? := by
      intro i
      rw [hb1.cell (by simp)]
      exact (Whole.new w _ _).cell i
    have q0 := hcl 0
    have q1 := hcl 1
    have q2 := hcl 2
    have q3 := hcl 3
    have q4 := hcl 4
    simp at q0 q1 q2 q3 q4
    clear hcl
    go_wp2_with fail
    refine (lea_next_any _ ⟨ep, pr, inc, un, hd⟩ HL.out).mono ?_
    rintro e1 w2 ⟨rfl, hb3⟩
    rw [← HN.out, ← HM.out]
    go_wp2_with fail
    go_ret2
    exact ⟨by simp, hb2.trans (hb3.mono hb2.size)⟩

end Go.Proofs.Ythknhgakompggaa
