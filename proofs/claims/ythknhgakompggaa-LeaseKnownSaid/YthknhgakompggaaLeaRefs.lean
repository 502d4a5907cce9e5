/-
  Leases: what the program's changing functions compute, and what the document's functions do.
-/
import Derived.Test.YthknhgakompggaaLeaFuns
namespace Go.Proofs.Ythknhgakompggaa
open Go.RowKit

theorem below1 (w : World) (a : Obj) : Below w.heap.size w (w.alloc a) := (Below.refl _ _).alloc (Nat.le_refl _) _
theorem below2 (w : World) (a b : Obj) : Below w.heap.size w ((w.alloc a).alloc b) := (below1 w a).alloc (by simp) _
theorem below3 (w : World) (a b c : Obj) : Below w.heap.size w (((w.alloc a).alloc b).alloc c) := (below2 w a b).alloc (by simp <;> omega) _
theorem below_drewN {B : Nat} {a w : World} (h : Below B a w) (n : Nat) : Below B a (w.drewN n) := ⟨h.os, h.tape, h.output, h.size, h.block⟩
theorem below_row {B g : Nat} {w0 w : World} (h : Below B w0 w) (hB : B ≤ g) (cs : Array Value) : Below B w0 (w.setRow g cs) :=
  h.trans ⟨rfl, rfl, rfl, by simp, fun j hj => setRow_other w g j cs (by omega)⟩
theorem below5 {B g : Nat} {a w : World} (h : Below B a w) (hg : B ≤ g) (u0 u1 u2 u3 u4 : Value) : Below B a (((((w.setCell ⟨g, 0, none⟩ u0).setCell ⟨g, 1, none⟩ u1).setCell ⟨g, 2, none⟩ u2).setCell ⟨g, 3, none⟩ u3).setCell ⟨g, 4, none⟩ u4) :=
  ((((h.setCell hg u0).setCell hg u1).setCell hg u2).setCell hg u3).setCell hg u4
theorem whole5 {w : World} {g : Nat} {t : TypeId} {a0 a1 a2 a3 a4 : Value} (h : Whole w g t #[a0, a1, a2, a3, a4]) (u0 u1 u2 u3 u4 : Value) : Whole (((((w.setCell ⟨g, 0, none⟩ u0).setCell ⟨g, 1, none⟩ u1).setCell ⟨g, 2, none⟩ u2).setCell ⟨g, 3, none⟩ u3).setCell ⟨g, 4, none⟩ u4) g t #[u0, u1, u2, u3, u4] :=
  ((((h.put_ 0 u0).put_ 1 u1).put_ 2 u2).put_ 3 u3).put_ 4 u4
theorem whole_row {w : World} {g : Nat} {t : TypeId} {cs : Array Value} (h : Whole w g t cs) (ds : Array Value) : Whole (w.setRow g ds) g t ds := setRow_heap w g cs _ t (0, 0) h
theorem size_lease : (Try.prog.info? 24).map (·.size) = some 5 := by kernel_rfl
theorem size_rlease : (Try.prog.info? 25).map (·.size) = some 5 := by kernel_rfl
theorem Ls.grant_ok {l : Ls} (hl : l.ok) (h : ¬ l.ep = 18446744073709551615) {p i u : Nat} (hp : p < 18446744073709551616) (hi : i < 18446744073709551616) (hu : u < 18446744073709551616) : (l.grant p i u).ok := by
  obtain ⟨h1, h2, h3, h4⟩ := hl
  unfold Ls.grant
  rw [if_neg h]
  exact ⟨by show l.ep + 1 < _; omega, hp, hi, hu⟩
theorem Ls.nextE_max {l : Ls} (h : l.ep = 18446744073709551615) : l.nextE = 131 := by unfold Ls.nextE; rw [if_pos h]
theorem Ls.nextN_max {l : Ls} (h : l.ep = 18446744073709551615) : l.nextN = 0 := by unfold Ls.nextN; rw [if_pos h]
theorem Ls.nextE_less {l : Ls} (h : ¬ l.ep = 18446744073709551615) : l.nextE = 0 := by unfold Ls.nextE; rw [if_neg h]
theorem Ls.nextN_less {l : Ls} (h : ¬ l.ep = 18446744073709551615) : l.nextN = l.ep + 1 := by unfold Ls.nextN; rw [if_neg h]
theorem Ls.grant_max {l : Ls} (h : l.ep = 18446744073709551615) (p i u : Nat) : l.grant p i u = l := by unfold Ls.grant; rw [if_pos h]
theorem Ls.grant_less {l : Ls} (h : ¬ l.ep = 18446744073709551615) (p i u : Nat) : l.grant p i u = ⟨l.ep + 1, p, i, u, true⟩ := by unfold Ls.grant; rw [if_neg h]

set_option maxHeartbeats 400000 in
theorem lea_grant_any (w : World) (l : Ls) (hl : l.ok) (p i u : Nat) :
    Calls Try.prog 26 #[l.v, .int .u64 (p : Nat), .int .u64 (i : Nat), .int .u64 (u : Nat)] w fun en w' => en = .returned (.tuple #[(l.grant p i u).v, .int .i64 (l.nextE : Nat)]) ∧ Below w.heap.size w w' := by
  by_cases h : l.ep = 18446744073709551615
  · rw [Ls.grant_max h, Ls.nextE_max h]
    obtain ⟨ep, pr, inc, un, hd⟩ := l
    have HN := Lib.hid (Ls.nextE_max h)
    have HM := Lib.hid (Ls.nextN_max h)
    clear h
    have HL := Lib.hid hl
    clear hl
    simp only [Ls.v]
    go_enter Try.func26, Try.ntmps26
    go_wp2_with fail
    refine (lea_next_any _ ⟨ep, pr, inc, un, hd⟩ HL.out).mono ?_
    rintro e1 w1 ⟨rfl, hb1⟩
    rw [HN.out, HM.out]
    have hb2 := (below2 w (.cells #[Value.int .u64 (ep : Nat), .int .u64 (pr : Nat), .int .u64 (inc : Nat), .int .u64 (un : Nat), .bool hd] 24) (.cells #[.int .u64 0, .int .u64 0, .int .u64 0, .int .u64 0, .bool false] 24)).trans (hb1.mono (by simp <;> omega))
    have hcl : ∀ i, w1.cell? ⟨w.heap.size, i, none⟩ = #[Value.int .u64 (ep : Nat), .int .u64 (pr : Nat), .int .u64 (inc : Nat), .int .u64 (un : Nat), .bool hd][i]? := by
      intro i
      rw [hb1.cell (by simp <;> omega)]
      exact ((Whole.new w _ _).alloc _).cell i
    have q0 := hcl 0
    have q1 := hcl 1
    have q2 := hcl 2
    have q3 := hcl 3
    have q4 := hcl 4
    simp at q0 q1 q2 q3 q4
    clear hcl
    have k1 : Whole w1 (w.heap.size + 1) 24 #[Value.int .u64 0, .int .u64 0, .int .u64 0, .int .u64 0, .bool false] := by first | exact k1 | exact Whole.below (heap_alloc2_new w _ _) hb1 (by simp)
    have f0 := k1.frozen 0
    have f1 := k1.frozen 1
    have f2 := k1.frozen 2
    have f3 := k1.frozen 3
    have f4 := k1.frozen 4
    have r0 := k1.cell 0
    have r1 := k1.cell 1
    have r2 := k1.cell 2
    have r3 := k1.cell 3
    have r4 := k1.cell 4
    simp at r0 r1 r2 r3 r4
    have hz1 : w.heap.size + 1 < w1.heap.size := k1.lt
    go_wp2_with fail
    have k2 := whole5 k1 (.int .u64 (ep : Nat)) (.int .u64 (pr : Nat)) (.int .u64 (inc : Nat)) (.int .u64 (un : Nat)) (.bool hd)
    have hb3 := below5 (g := w.heap.size + 1) hb2 (by omega) (.int .u64 (ep : Nat)) (.int .u64 (pr : Nat)) (.int .u64 (inc : Nat)) (.int .u64 (un : Nat)) (.bool hd)
    generalize World.setCell (World.setCell (World.setCell (World.setCell (World.setCell w1 _ _) _ _) _ _) _ _) _ _ = w2 at k2 hb3 ⊢
    have r0 := k2.cell 0
    have r1 := k2.cell 1
    have r2 := k2.cell 2
    have r3 := k2.cell 3
    have r4 := k2.cell 4
    simp at r0 r1 r2 r3 r4
    simp [bodyPost, results, Try.results26, go_sem, r0, r1, r2, r3, r4]
    exact hb3
  · rw [Ls.grant_less h, Ls.nextE_less h]
    obtain ⟨ep, pr, inc, un, hd⟩ := l
    have HN := Lib.hid (Ls.nextE_less h)
    have HM := Lib.hid (Ls.nextN_less h)
    clear h
    have HL := Lib.hid hl
    clear hl
    simp only [Ls.v]
    go_enter Try.func26, Try.ntmps26
    go_wp2_with fail
    refine (lea_next_any _ ⟨ep, pr, inc, un, hd⟩ HL.out).mono ?_
    rintro e1 w1 ⟨rfl, hb1⟩
    rw [HN.out, HM.out]
    have hb2 := (below2 w (.cells #[Value.int .u64 (ep : Nat), .int .u64 (pr : Nat), .int .u64 (inc : Nat), .int .u64 (un : Nat), .bool hd] 24) (.cells #[.int .u64 0, .int .u64 0, .int .u64 0, .int .u64 0, .bool false] 24)).trans (hb1.mono (by simp <;> omega))
    have hcl : ∀ i, w1.cell? ⟨w.heap.size, i, none⟩ = #[Value.int .u64 (ep : Nat), .int .u64 (pr : Nat), .int .u64 (inc : Nat), .int .u64 (un : Nat), .bool hd][i]? := by
      intro i
      rw [hb1.cell (by simp <;> omega)]
      exact ((Whole.new w _ _).alloc _).cell i
    have q0 := hcl 0
    have q1 := hcl 1
    have q2 := hcl 2
    have q3 := hcl 3
    have q4 := hcl 4
    simp at q0 q1 q2 q3 q4
    clear hcl
    have k1 : Whole w1 (w.heap.size + 1) 24 #[Value.int .u64 0, .int .u64 0, .int .u64 0, .int .u64 0, .bool false] := by first | exact k1 | exact Whole.below (heap_alloc2_new w _ _) hb1 (by simp)
    have f0 := k1.frozen 0
    have f1 := k1.frozen 1
    have f2 := k1.frozen 2
    have f3 := k1.frozen 3
    have f4 := k1.frozen 4
    have r0 := k1.cell 0
    have r1 := k1.cell 1
    have r2 := k1.cell 2
    have r3 := k1.cell 3
    have r4 := k1.cell 4
    simp at r0 r1 r2 r3 r4
    have hz1 : w.heap.size + 1 < w1.heap.size := k1.lt
    go_wp2_with fail
    have k2 := whole5 k1 (.int .u64 ((ep : Int) + 1)) (.int .u64 (p : Nat)) (.int .u64 (i : Nat)) (.int .u64 (u : Nat)) (.bool true)
    have hb3 := below5 (g := w.heap.size + 1) hb2 (by omega) (.int .u64 ((ep : Int) + 1)) (.int .u64 (p : Nat)) (.int .u64 (i : Nat)) (.int .u64 (u : Nat)) (.bool true)
    generalize World.setCell (World.setCell (World.setCell (World.setCell (World.setCell w1 _ _) _ _) _ _) _ _) _ _ = w2 at k2 hb3 ⊢
    have r0 := k2.cell 0
    have r1 := k2.cell 1
    have r2 := k2.cell 2
    have r3 := k2.cell 3
    have r4 := k2.cell 4
    simp at r0 r1 r2 r3 r4
    simp [bodyPost, results, Try.results26, go_sem, r0, r1, r2, r3, r4]
    exact hb3

set_option maxHeartbeats 400000 in
theorem lea_renew_any (w : World) (l : Ls) (u : Nat) :
    Calls Try.prog 27 #[l.v, .int .u64 (u : Nat)] w fun en w' => en = .returned ((l.renew u).v) ∧ Below w.heap.size w w' := by
  obtain ⟨ep, pr, inc, un, hd⟩ := l
  simp only [Ls.v, Ls.renew]
  by_cases h : un < u
  · rw [show max un u = u by omega]
    go_enter Try.func27, Try.ntmps27
    go_wp2_with fail
    simp [bodyPost, results, Try.results27, go_sem]
    exact below2 w _ _
  · rw [show max un u = un by omega]
    go_enter Try.func27, Try.ntmps27
    go_wp2_with fail
    simp [bodyPost, results, Try.results27, go_sem]
    exact below2 w _ _

set_option maxHeartbeats 400000 in
theorem lea_release_any (w : World) (l : Ls) :
    Calls Try.prog 28 #[l.v] w fun en w' => en = .returned ((l.release).v) ∧ Below w.heap.size w w' := by
  obtain ⟨ep, pr, inc, un, hd⟩ := l
  simp only [Ls.v, Ls.release]
  go_enter Try.func28, Try.ntmps28
  go_wp2_with fail
  simp [bodyPost, results, Try.results28, go_sem]
  exact below2 w _ _

set_option maxHeartbeats 400000 in
theorem lea_ref_any (w : World) (l : Ls) :
    Calls Try.prog 13 #[l.v] w fun en w' => en = .returned (l.v) ∧ Below w.heap.size w w' := by
  obtain ⟨ep, pr, inc, un, hd⟩ := l
  simp only [Ls.v]
  go_enter Try.func13, Try.ntmps13
  go_wp2_with fail
  simp [bodyPost, results, Try.results13, go_sem]
  exact below2 w _ _

set_option maxHeartbeats 400000 in
theorem lref_most_any (w : World)  :
    Calls Try.prog 50 #[] w fun en w' => en = .returned (.int .u64 18446744073709551615) ∧ Below w.heap.size w w' := by
  go_enter Try.func50, Try.ntmps50
  go_wp2_with fail
  go_ret
  exact ⟨rfl, Below.refl _ _⟩

set_option maxHeartbeats 400000 in
theorem lref_until_any (w : World) (c d : Nat) (hc : c < 18446744073709551616) (hd : d < 18446744073709551616) :
    Calls Try.prog 23 #[.int .u64 (c : Nat), .int .u64 (d : Nat)] w fun en w' => en = .returned (.int .u64 (till c d : Nat)) ∧ Below w.heap.size w w' := by
  have e2 : IntKind.u64.wrap (18446744073709551615 - (c : Int)) = 18446744073709551615 - (c : Int) := by rw [IntKind.wrap_u64]; omega
  by_cases h : c + d < 18446744073709551616
  · have e1 : till c d = c + d := by unfold till; rw [if_pos h]
    rw [e1]
    clear e1
    have e3 : decide (18446744073709551615 - (c : Int) < (d : Int)) = false := by simp; omega
    have e4 : IntKind.u64.wrap ((c : Int) + (d : Int)) = (c : Int) + (d : Int) := by rw [IntKind.wrap_u64]; omega
    go_enter Try.func23, Try.ntmps23
    go_wp2_with fail
    refine (lref_most_any _).mono ?_
    rintro e1 w1 ⟨rfl, hb1⟩
    go_wp2_with fail
    go_ret
    exact ⟨by simp, hb1⟩
  · have e1 : till c d = 18446744073709551615 := by unfold till; rw [if_neg h]
    rw [e1]
    clear e1
    have e3 : decide (18446744073709551615 - (c : Int) < (d : Int)) = true := by simp; omega
    go_enter Try.func23, Try.ntmps23
    go_wp2_with fail
    refine (lref_most_any _).mono ?_
    rintro e1 w1 ⟨rfl, hb1⟩
    go_wp2_with fail
    refine (lref_most_any _).mono ?_
    rintro e1 w2 ⟨rfl, hb2⟩
    go_wp2_with fail
    go_ret
    exact ⟨by simp, hb1.trans (hb2.mono hb1.size)⟩

set_option maxHeartbeats 400000 in
theorem lref_over_any (w : World) (l : Ls) (c s : Nat) (hc : c < 18446744073709551616) :
    Calls Try.prog 17 #[l.v, .int .u64 (c : Nat), .int .u64 (s : Nat)] w fun en w' => en = .returned (.bool (l.over c s)) ∧ Below w.heap.size w w' := by
  obtain ⟨ep, pr, inc, un, hd⟩ := l
  simp only [Ls.v, Ls.over]
  cases hd
  · go_enter Try.func17, Try.ntmps17
    go_wp2_with fail
    go_ret
    exact ⟨by simp, below1 w _⟩
  · by_cases h : un < c
    · have e2 : IntKind.u64.wrap ((c : Int) - (un : Int)) = (c : Int) - (un : Int) := by rw [IntKind.wrap_u64]; omega
      have e3 : decide ((un : Int) < (c : Int)) = true := by simp; omega
      rw [show (decide (un + s < 18446744073709551616) && decide (un + s < c)) = decide ((s : Int) < (c : Int) - (un : Int)) from by rw [← Bool.decide_and]; exact decide_eq_decide.2 (by omega)]
      go_enter Try.func17, Try.ntmps17
      go_wp2_with fail
      go_ret
      exact ⟨by simp, below1 w _⟩
    · have e3 : decide ((un : Int) < (c : Int)) = false := by simp; omega
      rw [show (decide (un + s < 18446744073709551616) && decide (un + s < c)) = false from by simp; omega]
      go_enter Try.func17, Try.ntmps17
      go_wp2_with fail
      go_ret
      exact ⟨by simp, below1 w _⟩

set_option maxHeartbeats 400000 in
theorem lref_owns_any (w : World) (l : Ls) (p i e : Nat) :
    Calls Try.prog 19 #[l.v, .int .u64 (p : Nat), .int .u64 (i : Nat), .int .u64 (e : Nat)] w fun en w' => en = .returned (.bool (l.owns p i e)) ∧ Below w.heap.size w w' := by
  obtain ⟨ep, pr, inc, un, hd⟩ := l
  simp only [Ls.v, Ls.owns]
  cases hd
  · go_enter Try.func19, Try.ntmps19
    go_wp2_with fail
    go_ret
    exact ⟨by simp, (Below.refl _ _).alloc (Nat.le_refl _) _⟩
  · by_cases hp : pr = p
    · subst hp
      by_cases hi : inc = i
      · subst hi
        rw [show decide (ep = e) = (((ep : Nat) : Int) == ((e : Nat) : Int)) from (int_beq _ _).symm]
        go_enter Try.func19, Try.ntmps19
        go_wp2_with fail
        go_ret
        exact ⟨by simp, (Below.refl _ _).alloc (Nat.le_refl _) _⟩
      · have e1 := nat_beq_ne hi
        rw [decide_eq_false hi]
        go_enter Try.func19, Try.ntmps19
        go_wp2_with fail
        go_ret
        exact ⟨by simp, (Below.refl _ _).alloc (Nat.le_refl _) _⟩
    · have e1 := nat_beq_ne hp
      rw [decide_eq_false hp]
      go_enter Try.func19, Try.ntmps19
      go_wp2_with fail
      go_ret
      exact ⟨by simp, (Below.refl _ _).alloc (Nat.le_refl _) _⟩

set_option maxHeartbeats 400000 in
theorem lref_fence_any (w : World) (l : Ls) (p i e : Nat) :
    Calls Try.prog 21 #[l.v, .int .u64 (p : Nat), .int .u64 (i : Nat), .int .u64 (e : Nat)] w fun en w' => en = .returned (.int .i64 (l.fence p i e : Nat)) ∧ Below w.heap.size w w' := by
  unfold Ls.fence
  cases ho : l.owns p i e
  all_goals
    have HO := Lib.hid ho
    clear ho
    obtain ⟨ep, pr, inc, un, hd⟩ := l
    simp only [Ls.v]
    go_enter Try.func21, Try.ntmps21
    go_wp2_with fail
    refine (lref_owns_any _ ⟨ep, pr, inc, un, hd⟩ p i e).mono ?_
    rintro e1 w1 ⟨rfl, hb1⟩
    rw [HO.out]
    go_wp2_with fail
    go_ret
    exact ⟨by simp, ((Below.refl _ _).alloc (Nat.le_refl _) _).trans (hb1.mono (by simp <;> omega))⟩

theorem lref_most_still (w : World) : Calls Try.prog 50 #[] w fun en w' => en = .returned (.int .u64 18446744073709551615) ∧ w' = w := by
  go_enter Try.func50, Try.ntmps50
  go_wp2_with fail
  go_ret
  exact ⟨rfl, rfl⟩

set_option maxHeartbeats 400000 in
theorem lref_try_any (w : World) (l : Ls) (hl : l.ok) (c s : Nat) (hc : c < 18446744073709551616) :
    Calls Try.prog 15 #[l.v, .int .u64 (c : Nat), .int .u64 (s : Nat)] w fun en w' => en = .returned (.tuple #[.int .u64 (l.tryN c s : Nat), .int .i64 (l.tryE c s : Nat)]) ∧ Below w.heap.size w w' := by
  unfold Ls.tryN Ls.tryE
  cases ho : l.over c s
  · have HO := Lib.hid ho
    clear ho
    obtain ⟨ep, pr, inc, un, hd⟩ := l
    simp only [Ls.v]
    go_enter Try.func15, Try.ntmps15
    go_wp2_with fail
    refine (lref_over_any _ ⟨ep, pr, inc, un, hd⟩ c s hc).mono ?_
    rintro e1 w1 ⟨rfl, hb1⟩
    rw [HO.out]
    go_wp2_with fail
    go_ret2
    exact ⟨by simp, ((Below.refl _ _).alloc (Nat.le_refl _) _).trans (hb1.mono (by simp <;> omega))⟩
  · have HO := Lib.hid ho
    clear ho
    unfold Ls.nextN Ls.nextE
    obtain ⟨ep, pr, inc, un, hd⟩ := l
    have h1 := hl.1
    clear hl
    simp only [Ls.v] at *
    have hm : (if ep = 18446744073709551615 then (131 : Nat) else 0) = 131 ∧ (if ep = 18446744073709551615 then (0 : Nat) else ep + 1) = 0 ∧ (((ep : Nat) : Int) == 18446744073709551615) = true ∨ (if ep = 18446744073709551615 then (131 : Nat) else 0) = 0 ∧ (if ep = 18446744073709551615 then (0 : Nat) else ep + 1) = ep + 1 ∧ (((ep : Nat) : Int) == 18446744073709551615) = false := by
      by_cases h : ep = 18446744073709551615
      · left; subst h; exact ⟨rfl, rfl, rfl⟩
      · right; exact ⟨if_neg h, if_neg h, by simp; omega⟩
    rcases hm with ⟨m1, m2, m3⟩ | ⟨m1, m2, m3⟩
    all_goals
      rw [m1, m2]
      clear m1 m2
      try have e2 : IntKind.u64.wrap ((ep : Int) + 1) = (ep : Int) + 1 := by simp at m3; rw [IntKind.wrap_u64]; omega
      go_enter Try.func15, Try.ntmps15
      go_wp2_with fail
      refine (lref_over_any _ ⟨ep, pr, inc, un, hd⟩ c s hc).mono ?_
      rintro e1 w1 ⟨rfl, hb1⟩
      rw [HO.out]
      have hb2 := (below1 w (.cells #[Value.int .u64 (ep : Nat), .int .u64 (pr : Nat), .int .u64 (inc : Nat), .int .u64 (un : Nat), .bool hd] 25)).trans (hb1.mono (by simp <;> omega))
      have hcl : ∀ i, w1.cell? ⟨w.heap.size, i, none⟩ = #[Value.int .u64 (ep : Nat), .int .u64 (pr : Nat), .int .u64 (inc : Nat), .int .u64 (un : Nat), .bool hd][i]? := by
        intro i
        rw [hb1.cell (by simp <;> omega)]
        exact (Whole.new w _ _).cell i
      have q0 := hcl 0
      have q1 := hcl 1
      have q2 := hcl 2
      have q3 := hcl 3
      have q4 := hcl 4
      simp at q0 q1 q2 q3 q4
      clear hcl
      go_wp2_with fail
      go_quiet ((go_at_call 50; exact Calls.quiet_of_same (lref_most_still _)))
      go_wp2_with fail
      go_ret2
      exact ⟨by simp, below_drewN hb2 _⟩

set_option maxHeartbeats 400000 in
theorem lref_grant_any (w : World) (l : Ls) (hl : l.ok) (p i u : Nat) :
    Calls Try.prog 29 #[l.v, .int .u64 (p : Nat), .int .u64 (i : Nat), .int .u64 (u : Nat)] w fun en w' => en = .returned (.tuple #[(l.grant p i u).v, .int .i64 (l.nextE : Nat)]) ∧ Below w.heap.size w w' := by
  by_cases h : l.ep = 18446744073709551615
  · rw [Ls.grant_max h, Ls.nextE_max h]
    obtain ⟨ep, pr, inc, un, hd⟩ := l
    obtain rfl : ep = 18446744073709551615 := h
    simp only [Ls.v]
    go_enter Try.func29, Try.ntmps29
    go_wp2_with fail
    go_quiet ((go_at_call 50; exact Calls.quiet_of_same (lref_most_still _)))
    generalize hv : World.drewN _ nq = w1
    have k0 : Whole w1 w.heap.size 25 #[Value.int .u64 18446744073709551615, .int .u64 (pr : Nat), .int .u64 (inc : Nat), .int .u64 (un : Nat), .bool hd] := by rw [← hv]; exact (Whole.new w _ _).alloc _
    have k1 : Whole w1 (w.heap.size + 1) 25 #[Value.int .u64 0, .int .u64 0, .int .u64 0, .int .u64 0, .bool false] := by rw [← hv]; exact heap_alloc2_new w _ _
    have hb2 : Below w.heap.size w w1 := by rw [← hv]; exact below_drewN (below2 w _ _) nq
    have q0 := k0.cell 0
    have q1 := k0.cell 1
    have q2 := k0.cell 2
    have q3 := k0.cell 3
    have q4 := k0.cell 4
    simp at q0 q1 q2 q3 q4
    clear k0 hv
    have k1 : Whole w1 (w.heap.size + 1) 25 #[Value.int .u64 0, .int .u64 0, .int .u64 0, .int .u64 0, .bool false] := by first | exact k1 | exact Whole.below (heap_alloc2_new w _ _) hb1 (by simp)
    have f0 := k1.frozen 0
    have f1 := k1.frozen 1
    have f2 := k1.frozen 2
    have f3 := k1.frozen 3
    have f4 := k1.frozen 4
    have r0 := k1.cell 0
    have r1 := k1.cell 1
    have r2 := k1.cell 2
    have r3 := k1.cell 3
    have r4 := k1.cell 4
    simp at r0 r1 r2 r3 r4
    have hz1 : w.heap.size + 1 < w1.heap.size := k1.lt
    go_wp2_with fail
    have k2 := whole5 k1 (.int .u64 18446744073709551615) (.int .u64 (pr : Nat)) (.int .u64 (inc : Nat)) (.int .u64 (un : Nat)) (.bool hd)
    have hb3 := below5 (g := w.heap.size + 1) hb2 (by omega) (.int .u64 18446744073709551615) (.int .u64 (pr : Nat)) (.int .u64 (inc : Nat)) (.int .u64 (un : Nat)) (.bool hd)
    generalize World.setCell (World.setCell (World.setCell (World.setCell (World.setCell w1 _ _) _ _) _ _) _ _) _ _ = w2 at k2 hb3 ⊢
    have r0 := k2.cell 0
    have r1 := k2.cell 1
    have r2 := k2.cell 2
    have r3 := k2.cell 3
    have r4 := k2.cell 4
    simp at r0 r1 r2 r3 r4
    simp [bodyPost, results, Try.results29, go_sem, r0, r1, r2, r3, r4]
    exact hb3
  · rw [Ls.grant_less h, Ls.nextE_less h]
    obtain ⟨ep, pr, inc, un, hd⟩ := l
    have h1 := hl.1
    clear hl
    simp only [Ls.v] at *
    have e1 : (((ep : Nat) : Int) == 18446744073709551615) = false := by simp; omega
    have e2 : IntKind.u64.wrap ((ep : Int) + 1) = (ep : Int) + 1 := by rw [IntKind.wrap_u64]; omega
    go_enter Try.func29, Try.ntmps29
    go_wp2_with fail
    go_quiet ((go_at_call 50; exact Calls.quiet_of_same (lref_most_still _)))
    generalize hv : World.drewN _ nq = w1
    have k0 : Whole w1 w.heap.size 25 #[Value.int .u64 (ep : Nat), .int .u64 (pr : Nat), .int .u64 (inc : Nat), .int .u64 (un : Nat), .bool hd] := by rw [← hv]; exact (Whole.new w _ _).alloc _
    have k1 : Whole w1 (w.heap.size + 1) 25 #[Value.int .u64 0, .int .u64 0, .int .u64 0, .int .u64 0, .bool false] := by rw [← hv]; exact heap_alloc2_new w _ _
    have hb2 : Below w.heap.size w w1 := by rw [← hv]; exact below_drewN (below2 w _ _) nq
    have q0 := k0.cell 0
    have q1 := k0.cell 1
    have q2 := k0.cell 2
    have q3 := k0.cell 3
    have q4 := k0.cell 4
    simp at q0 q1 q2 q3 q4
    clear k0 hv
    have k1 : Whole w1 (w.heap.size + 1) 25 #[Value.int .u64 0, .int .u64 0, .int .u64 0, .int .u64 0, .bool false] := by first | exact k1 | exact Whole.below (heap_alloc2_new w _ _) hb1 (by simp)
    have f0 := k1.frozen 0
    have f1 := k1.frozen 1
    have f2 := k1.frozen 2
    have f3 := k1.frozen 3
    have f4 := k1.frozen 4
    have r0 := k1.cell 0
    have r1 := k1.cell 1
    have r2 := k1.cell 2
    have r3 := k1.cell 3
    have r4 := k1.cell 4
    simp at r0 r1 r2 r3 r4
    have hz1 : w.heap.size + 1 < w1.heap.size := k1.lt
    go_wp2_with fail
    have k2 := whole5 k1 (.int .u64 ((ep : Int) + 1)) (.int .u64 (p : Nat)) (.int .u64 (i : Nat)) (.int .u64 (u : Nat)) (.bool true)
    have hb3 := below5 (g := w.heap.size + 1) hb2 (by omega) (.int .u64 ((ep : Int) + 1)) (.int .u64 (p : Nat)) (.int .u64 (i : Nat)) (.int .u64 (u : Nat)) (.bool true)
    generalize World.setCell (World.setCell (World.setCell (World.setCell (World.setCell w1 _ _) _ _) _ _) _ _) _ _ = w2 at k2 hb3 ⊢
    have r0 := k2.cell 0
    have r1 := k2.cell 1
    have r2 := k2.cell 2
    have r3 := k2.cell 3
    have r4 := k2.cell 4
    simp at r0 r1 r2 r3 r4
    simp [bodyPost, results, Try.results29, go_sem, r0, r1, r2, r3, r4]
    exact hb3

set_option maxHeartbeats 400000 in
theorem lref_renew_any (w : World) (l : Ls) (u : Nat) :
    Calls Try.prog 30 #[l.v, .int .u64 (u : Nat)] w fun en w' => en = .returned ((l.renew u).v) ∧ Below w.heap.size w w' := by
  obtain ⟨ep, pr, inc, un, hd⟩ := l
  simp only [Ls.v, Ls.renew]
  by_cases h : u < un
  · rw [show max un u = un by omega]
    go_enter Try.func30, Try.ntmps30
    go_wp2_with fail
    simp [bodyPost, results, Try.results30, go_sem]
    first | exact below2 w _ _ | exact below1 w _
  · rw [show max un u = u by omega]
    go_enter Try.func30, Try.ntmps30
    go_wp2_with fail
    simp [bodyPost, results, Try.results30, go_sem]
    first | exact below2 w _ _ | exact below1 w _

set_option maxHeartbeats 400000 in
theorem lref_release_any (w : World) (l : Ls) :
    Calls Try.prog 31 #[l.v] w fun en w' => en = .returned ((l.release).v) ∧ Below w.heap.size w w' := by
  obtain ⟨ep, pr, inc, un, hd⟩ := l
  simp only [Ls.v, Ls.release]
  go_enter Try.func31, Try.ntmps31
  go_wp2_with fail
  simp [bodyPost, results, Try.results31, go_sem]
  first | exact below2 w _ _ | exact below1 w _

end Go.Proofs.Ythknhgakompggaa
