/-
  Leases: the last one of a row, as the program and the document find it.
-/
import Derived.Test.YthknhgakompggaaLeaRefs
import Derived.Test.YthknhgakompggaaLeaLast
import Derived.Test.YthknhgakompggaaOpenMore
import Derived.Test.YthknhgakompggaaUndef
import Derived.Deep.DeepCutAuto
namespace Go.Proofs.Ythknhgakompggaa
open Go.RowKit
attribute [local go_sem] match_undef
attribute [local irreducible] wpList

set_option maxHeartbeats 400000 in
theorem lea_later_any (w : World) (l m : Ls) :
    Calls Try.prog 52 #[l.v, m.v] w fun en w' => en = .returned (.bool (decide (l.ep < m.ep))) ∧ Below w.heap.size w w' := by
  obtain ⟨a0, a1, a2, a3, a4⟩ := l
  obtain ⟨b0, b1, b2, b3, b4⟩ := m
  simp only [Ls.v]
  rw [show decide (a0 < b0) = decide ((a0 : Int) < (b0 : Int)) from decide_eq_decide.2 (by omega)]
  go_enter Try.func52, Try.ntmps52
  go_wp2_with fail
  go_ret
  exact ⟨by simp, below2 w _ _⟩

set_option maxRecDepth 100000 in
set_option maxHeartbeats 4000000 in
theorem lea_last_any (w : World) (A : Option Addr) (n cap : Nat) (xs : List Ls) (B : Nat) (hB : B ≤ w.heap.size) (h : Rd w B 5 A n (xs.flatMap Ls.cs)) (hl : xs.length = n) (hn : n ≤ 100000) :
    Calls Try.prog 32 #[.slice A n cap] w fun en w' => en = .returned ((Ls.lastTo xs n).v) ∧ Below w.heap.size w w' := by
  have H := Lib.hid h
  have HN := Lib.hid hl
  clear h hl
  go_enter Try.func32, Try.ntmps32
  go_wp2_with fail
  go_loopw [8] (fun x wr => ∃ k : Nat, k ≤ n ∧ x = .int .i64 k ∧ Whole wr w.heap.size 24 #[Value.int .u64 ((Ls.lastTo xs k).ep : Nat), .int .u64 ((Ls.lastTo xs k).pr : Nat), .int .u64 ((Ls.lastTo xs k).inc : Nat), .int .u64 ((Ls.lastTo xs k).un : Nat), .bool (Ls.lastTo xs k).hd] ∧ Below w.heap.size w wr) (fun x _ => n - (intOf x).toNat)
  case atStart => exact ⟨0, by omega, rfl, Whole.new w _ _, below1 w _⟩
  case round =>
    obtain ⟨k, hk, rfl, k1, hb⟩ := hrel
    obtain ⟨la, hla⟩ : ∃ l, l = Ls.lastTo xs k := ⟨_, rfl⟩
    rw [← hla] at k1
    have HLA := Lib.hid hla
    clear hla
    obtain ⟨e0, e1, e2, e3, e4⟩ := la
    simp only at k1
    by_cases hlt : k < n
    · obtain ⟨b0, o, hkl, hA, hbB, hat⟩ := (H.out.below (hb.mono hB)).elem Ls.cs_length HN.out hlt
      subst hA
      obtain ⟨m0, m1, m2, m3, m4, hxk⟩ : ∃ a b c d e, xs[k] = ⟨a, b, c, d, e⟩ := ⟨_, _, _, _, _, rfl⟩
      have HXK := Lib.hid (show Ls.at' xs k = ⟨m0, m1, m2, m3, m4⟩ from by unfold Ls.at' List.getD; rw [List.getElem?_eq_getElem hkl, Option.getD_some, hxk])
      rw [hxk] at hat
      have c0 : wr.cell? ⟨b0, o + k * 5, none⟩ = some (.int .u64 (m0 : Nat)) := hat 0 _ rfl
      have c1 : wr.cell? ⟨b0, o + k * 5 + 1, none⟩ = some (.int .u64 (m1 : Nat)) := hat 1 _ rfl
      have c2 : wr.cell? ⟨b0, o + k * 5 + 2, none⟩ = some (.int .u64 (m2 : Nat)) := hat 2 _ rfl
      have c3 : wr.cell? ⟨b0, o + k * 5 + 3, none⟩ = some (.int .u64 (m3 : Nat)) := hat 3 _ rfl
      have c4 : wr.cell? ⟨b0, o + k * 5 + 4, none⟩ = some (.bool m4) := hat 4 _ rfl
      clear hat hxk
      have hd1 : decide ((k : Int) < (n : Int)) = true := by simp; omega
      have ka := k1.alloc (.cells #[Value.int .u64 (m0 : Nat), .int .u64 (m1 : Nat), .int .u64 (m2 : Nat), .int .u64 (m3 : Nat), .bool m4] 24)
      have hba : Below w.heap.size w (wr.alloc (.cells #[Value.int .u64 (m0 : Nat), .int .u64 (m1 : Nat), .int .u64 (m2 : Nat), .int .u64 (m3 : Nat), .bool m4] 24)) := hb.alloc hb.size _
      have q0 := ka.cell 0
      have q1 := ka.cell 1
      have q2 := ka.cell 2
      have q3 := ka.cell 3
      have q4 := ka.cell 4
      simp at q0 q1 q2 q3 q4
      have f0 := ka.frozen 0
      have f1 := ka.frozen 1
      have f2 := ka.frozen 2
      have f3 := ka.frozen 3
      have f4 := ka.frozen 4
      by_cases hk0 : k = 0
      · have hk1 : ((k : Int) == 0) = true := by simp; omega
        have HK0 := Lib.hid hk0
        clear hk0
        go_upto_region 7 with fail
        have hb5 := below5 (g := w.heap.size) hba (Nat.le_refl _) (.int .u64 (m0 : Nat)) (.int .u64 (m1 : Nat)) (.int .u64 (m2 : Nat)) (.int .u64 (m3 : Nat)) (.bool m4)
        have k1n := whole5 ka (.int .u64 (m0 : Nat)) (.int .u64 (m1 : Nat)) (.int .u64 (m2 : Nat)) (.int .u64 (m3 : Nat)) (.bool m4)
        generalize World.setCell (World.setCell (World.setCell (World.setCell (World.setCell _ _ _) _ _) _ _) _ _) _ _ = w9 at k1n hb5 ⊢
        clear c0 c1 c2 c3 c4 q0 q1 q2 q3 q4 f0 f1 f2 f3 f4
        go_wp2_with fail
        go_roundw
        case rel =>
          refine ⟨k + 1, by omega, by go_num, ?_, hb5⟩
          rw [Ls.lastTo, if_pos (.inl HK0.out), HXK.out]
          exact k1n
        case measure => simp [intOf] <;> omega
      · have hk1 : ((k : Int) == 0) = false := by simp; omega
        have HK0 := Lib.hid hk0
        clear hk0
        obtain ⟨z, hz⟩ : ∃ z, z = wr.heap.size := ⟨_, rfl⟩
        go_wp2_with fail
        refine (lea_later_any _ ⟨e0, e1, e2, e3, e4⟩ ⟨m0, m1, m2, m3, m4⟩).mono ?_
        rintro en w2 ⟨rfl, hbn⟩
        simp only
        have kz := (Whole.new wr 24 #[Value.int .u64 (m0 : Nat), .int .u64 (m1 : Nat), .int .u64 (m2 : Nat), .int .u64 (m3 : Nat), .bool m4]).below hbn (Whole.new wr 24 #[Value.int .u64 (m0 : Nat), .int .u64 (m1 : Nat), .int .u64 (m2 : Nat), .int .u64 (m3 : Nat), .bool m4]).lt
        rw [← hz] at kz ⊢
        clear hz
        replace ka := ka.below hbn ka.lt
        replace hba := hba.trans (hbn.mono hba.size)
        clear hbn q0 q1 q2 q3 q4 f0 f1 f2 f3 f4 c0 c1 c2 c3 c4
        have q0 := ka.cell 0
        have q1 := ka.cell 1
        have q2 := ka.cell 2
        have q3 := ka.cell 3
        have q4 := ka.cell 4
        simp at q0 q1 q2 q3 q4
        have f0 := ka.frozen 0
        have f1 := ka.frozen 1
        have f2 := ka.frozen 2
        have f3 := ka.frozen 3
        have f4 := ka.frozen 4
        have v0 := kz.cell 0
        have v1 := kz.cell 1
        have v2 := kz.cell 2
        have v3 := kz.cell 3
        have v4 := kz.cell 4
        simp at v0 v1 v2 v3 v4
        by_cases hem : e0 < m0
        · rw [decide_eq_true hem]
          have HEM := Lib.hid hem
          clear hem
          go_upto_region 7 with fail
          have hb5 := below5 (g := w.heap.size) hba (Nat.le_refl _) (.int .u64 (m0 : Nat)) (.int .u64 (m1 : Nat)) (.int .u64 (m2 : Nat)) (.int .u64 (m3 : Nat)) (.bool m4)
          have k1n := whole5 ka (.int .u64 (m0 : Nat)) (.int .u64 (m1 : Nat)) (.int .u64 (m2 : Nat)) (.int .u64 (m3 : Nat)) (.bool m4)
          generalize World.setCell (World.setCell (World.setCell (World.setCell (World.setCell _ _ _) _ _) _ _) _ _) _ _ = w9 at k1n hb5 ⊢
          clear q0 q1 q2 q3 q4 f0 f1 f2 f3 f4 v0 v1 v2 v3 v4
          go_wp2_with fail
          go_roundw
          case rel =>
            refine ⟨k + 1, by omega, by go_num, ?_, hb5⟩
            rw [Ls.lastTo_next HLA.out HXK.out HEM.out]
            exact k1n
          case measure => simp [intOf] <;> omega
        · rw [decide_eq_false hem]
          have HEM := Lib.hid hem
          clear hem
          go_wp2_with fail
          go_roundw
          case rel =>
            refine ⟨k + 1, by omega, by go_num, ?_, hba⟩
            rw [Ls.lastTo_stay HK0.out HLA.out HXK.out HEM.out]
            exact ka
          case measure => simp [intOf] <;> omega
    · obtain rfl : k = n := by omega
      have q0 := k1.cell 0
      have q1 := k1.cell 1
      have q2 := k1.cell 2
      have q3 := k1.cell 3
      have q4 := k1.cell 4
      simp at q0 q1 q2 q3 q4
      have f0 := k1.frozen 0
      have f1 := k1.frozen 1
      have f2 := k1.frozen 2
      have f3 := k1.frozen 3
      have f4 := k1.frozen 4
      go_wp2_with fail
      have hb5 := below5 (g := w.heap.size) hb (Nat.le_refl _) (.int .u64 (e0 : Nat)) (.int .u64 (e1 : Nat)) (.int .u64 (e2 : Nat)) (.int .u64 (e3 : Nat)) (.bool e4)
      have k1n := whole5 k1 (.int .u64 (e0 : Nat)) (.int .u64 (e1 : Nat)) (.int .u64 (e2 : Nat)) (.int .u64 (e3 : Nat)) (.bool e4)
      generalize World.setCell (World.setCell (World.setCell (World.setCell (World.setCell _ _ _) _ _) _ _) _ _) _ _ = w9 at k1n hb5 ⊢
      clear q0 q1 q2 q3 q4 f0 f1 f2 f3 f4
      have r0 := k1n.cell 0
      have r1 := k1n.cell 1
      have r2 := k1n.cell 2
      have r3 := k1n.cell 3
      have r4 := k1n.cell 4
      simp at r0 r1 r2 r3 r4
      rw [← HLA.out]
      simp only [Ls.v]
      simp [bodyPost, results, Try.results32, go_sem, r0, r1, r2, r3, r4]
      exact hb5

set_option maxRecDepth 100000 in
set_option maxHeartbeats 4000000 in
theorem lref_last_any (w : World) (A : Option Addr) (n cap : Nat) (xs : List Ls) (B : Nat) (hB : B ≤ w.heap.size) (h : Rd w B 5 A n (xs.flatMap Ls.cs)) (hl : xs.length = n) (hn : n ≤ 100000) :
    Calls Try.prog 33 #[.slice A n cap] w fun en w' => en = .returned ((Ls.backTo xs n).v) ∧ Below w.heap.size w w' := by
  have H := Lib.hid h
  have HN := Lib.hid hl
  clear h hl
  have e1 : IntKind.i64.wrap ((n : Int) - 1) = (n : Int) - 1 := by rw [IntKind.wrap_i64]; omega
  go_enter Try.func33, Try.ntmps33
  go_wp2_with fail
  go_loopw [4] (fun x wr => ∃ m : Nat, m ≤ n ∧ x = .int .i64 ((m : Int) - 1) ∧ Whole wr (w.heap.size + 1) 25 #[Value.int .u64 ((Ls.backTo xs (n - m)).ep : Nat), .int .u64 ((Ls.backTo xs (n - m)).pr : Nat), .int .u64 ((Ls.backTo xs (n - m)).inc : Nat), .int .u64 ((Ls.backTo xs (n - m)).un : Nat), .bool (Ls.backTo xs (n - m)).hd] ∧ Whole wr w.heap.size 25 #[Value.int .u64 0, .int .u64 0, .int .u64 0, .int .u64 0, .bool false] ∧ Below w.heap.size w wr) (fun x _ => (intOf x + 1).toNat)
  case atStart => exact ⟨n, by omega, by first | rfl | (congr 1) | (rw [e1]), by rw [Nat.sub_self]; exact heap_alloc2_new w _ _, (Whole.new w _ _).alloc _, below2 w _ _⟩
  case round =>
    obtain ⟨m, hm, rfl, k1, k2, hb⟩ := hrel
    by_cases hpos : 0 < m
    · obtain ⟨i, rfl⟩ : ∃ i, m = i + 1 := ⟨m - 1, by omega⟩
      have hlt : i < n := by omega
      rw [show (((i + 1 : Nat) : Int) - 1) = (i : Int) from by omega]
      obtain ⟨la, hla⟩ : ∃ l, l = Ls.backTo xs (n - (i + 1)) := ⟨_, rfl⟩
      rw [← hla] at k1
      have HLA := Lib.hid hla
      clear hla
      obtain ⟨e0, e1', e2, e3, e4⟩ := la
      simp only at k1
      obtain ⟨b0, o, hkl, hA, hbB, hat⟩ := (H.out.below (hb.mono hB)).elem Ls.cs_length HN.out hlt
      subst hA
      obtain ⟨m0, m1, m2, m3, m4, hxk⟩ : ∃ a b c d e, xs[i] = ⟨a, b, c, d, e⟩ := ⟨_, _, _, _, _, rfl⟩
      have hidx : xs.length - 1 - (n - (i + 1)) = i := by rw [HN.out]; omega
      have HXK := Lib.hid (show Ls.at' xs (xs.length - 1 - (n - (i + 1))) = ⟨m0, m1, m2, m3, m4⟩ from by rw [hidx]; unfold Ls.at' List.getD; rw [List.getElem?_eq_getElem hkl, Option.getD_some, hxk])
      have HSU := Lib.hid (show n - (i + 1) + 1 = n - i from by omega)
      rw [hxk] at hat
      have c0 : wr.cell? ⟨b0, o + i * 5, none⟩ = some (.int .u64 (m0 : Nat)) := hat 0 _ rfl
      have c1 : wr.cell? ⟨b0, o + i * 5 + 1, none⟩ = some (.int .u64 (m1 : Nat)) := hat 1 _ rfl
      have c2 : wr.cell? ⟨b0, o + i * 5 + 2, none⟩ = some (.int .u64 (m2 : Nat)) := hat 2 _ rfl
      have c3 : wr.cell? ⟨b0, o + i * 5 + 3, none⟩ = some (.int .u64 (m3 : Nat)) := hat 3 _ rfl
      have c4 : wr.cell? ⟨b0, o + i * 5 + 4, none⟩ = some (.bool m4) := hat 4 _ rfl
      clear hat hxk hidx
      have hi1 : (0 : Int) ≤ (i : Int) := by omega
      have hi2 : (i : Int) < (n : Int) := by omega
      have hd1 : decide ((0 : Int) ≤ (i : Int)) = true := by simp
      have e5 : IntKind.i64.wrap ((i : Int) - 1) = (i : Int) - 1 := by rw [IntKind.wrap_i64]; omega
      have q0 := k1.cell 0
      have q1 := k1.cell 1
      have q2 := k1.cell 2
      have q3 := k1.cell 3
      have q4 := k1.cell 4
      simp at q0 q1 q2 q3 q4
      have f0 := k1.frozen 0
      have f1 := k1.frozen 1
      have f2 := k1.frozen 2
      have f3 := k1.frozen 3
      have f4 := k1.frozen 4
      have key : ∀ (wz : World) (nq : Nat), wz = wr.drewN nq → True := fun _ _ _ => trivial
      by_cases hin : i + 1 = n
      · have t1 : ((i : Int) == (n : Int) - 1) = true := by simp; omega
        have HIN := Lib.hid (show n - (i + 1) = 0 from by omega)
        clear hin key
        go_wp2_with fail
        go_quiet (fail)
        go_upto_region 4 with fail
        have hb5 := below5 (g := w.heap.size + 1) (below_drewN hb nq) (by omega) (.int .u64 (m0 : Nat)) (.int .u64 (m1 : Nat)) (.int .u64 (m2 : Nat)) (.int .u64 (m3 : Nat)) (.bool m4)
        have k1n := whole5 (k1.drewN nq) (.int .u64 (m0 : Nat)) (.int .u64 (m1 : Nat)) (.int .u64 (m2 : Nat)) (.int .u64 (m3 : Nat)) (.bool m4)
        have k2n := (((((k2.drewN nq).far (p := ⟨w.heap.size + 1, 0, none⟩) (by simp) (.int .u64 (m0 : Nat))).far (p := ⟨w.heap.size + 1, 1, none⟩) (by simp) (.int .u64 (m1 : Nat))).far (p := ⟨w.heap.size + 1, 2, none⟩) (by simp) (.int .u64 (m2 : Nat))).far (p := ⟨w.heap.size + 1, 3, none⟩) (by simp) (.int .u64 (m3 : Nat))).far (p := ⟨w.heap.size + 1, 4, none⟩) (by simp) (.bool m4)
        generalize World.setCell (World.setCell (World.setCell (World.setCell (World.setCell _ _ _) _ _) _ _) _ _) _ _ = w9 at k1n k2n hb5 ⊢
        clear c0 c1 c2 c3 c4 q0 q1 q2 q3 q4 f0 f1 f2 f3 f4
        go_wp2_with fail
        go_roundw
        case rel =>
          refine ⟨i, by omega, by first | rfl | go_num, ?_, k2n, hb5⟩
          rw [← HSU.out, Ls.backTo_first HIN.out HXK.out]
          exact k1n
        case measure => simp [intOf] <;> omega
      · have t1 : ((i : Int) == (n : Int) - 1) = false := by simp; omega
        have HIN := Lib.hid (show ¬ n - (i + 1) = 0 from by omega)
        clear hin key
        by_cases hem : e0 ≤ m0
        · have t2 : decide ((e0 : Int) ≤ (m0 : Int)) = true := by simp; omega
          have HEM := Lib.hid hem
          clear hem
          go_wp2_with fail
          go_quiet (fail)
          go_upto_region 4 with fail
          have hb5 := below5 (g := w.heap.size + 1) (below_drewN hb nq) (by omega) (.int .u64 (m0 : Nat)) (.int .u64 (m1 : Nat)) (.int .u64 (m2 : Nat)) (.int .u64 (m3 : Nat)) (.bool m4)
          have k1n := whole5 (k1.drewN nq) (.int .u64 (m0 : Nat)) (.int .u64 (m1 : Nat)) (.int .u64 (m2 : Nat)) (.int .u64 (m3 : Nat)) (.bool m4)
          have k2n := (((((k2.drewN nq).far (p := ⟨w.heap.size + 1, 0, none⟩) (by simp) (.int .u64 (m0 : Nat))).far (p := ⟨w.heap.size + 1, 1, none⟩) (by simp) (.int .u64 (m1 : Nat))).far (p := ⟨w.heap.size + 1, 2, none⟩) (by simp) (.int .u64 (m2 : Nat))).far (p := ⟨w.heap.size + 1, 3, none⟩) (by simp) (.int .u64 (m3 : Nat))).far (p := ⟨w.heap.size + 1, 4, none⟩) (by simp) (.bool m4)
          generalize World.setCell (World.setCell (World.setCell (World.setCell (World.setCell _ _ _) _ _) _ _) _ _) _ _ = w9 at k1n k2n hb5 ⊢
          clear c0 c1 c2 c3 c4 q0 q1 q2 q3 q4 f0 f1 f2 f3 f4
          go_wp2_with fail
          go_roundw
          case rel =>
            refine ⟨i, by omega, by first | rfl | go_num, ?_, k2n, hb5⟩
            rw [← HSU.out, Ls.backTo_next HLA.out HXK.out HEM.out]
            exact k1n
          case measure => simp [intOf] <;> omega
        · have t2 : decide ((e0 : Int) ≤ (m0 : Int)) = false := by simp; omega
          have HEM := Lib.hid hem
          clear hem
          go_wp2_with fail
          go_quiet (fail)
          go_wp2_with fail
          go_roundw
          case rel =>
            refine ⟨i, by omega, by first | rfl | go_num, ?_, k2.drewN _, below_drewN hb _⟩
            rw [← HSU.out, Ls.backTo_stay HIN.out HLA.out HXK.out HEM.out]
            exact k1.drewN _
          case measure => simp [intOf] <;> omega
    · obtain rfl : m = 0 := by omega
      rw [Nat.sub_zero] at k1
      obtain ⟨la, hla⟩ : ∃ l, l = Ls.backTo xs n := ⟨_, rfl⟩
      rw [← hla] at k1
      have HLA := Lib.hid hla
      clear hla
      obtain ⟨e0, e1', e2, e3, e4⟩ := la
      simp only at k1
      have q0 := k1.cell 0
      have q1 := k1.cell 1
      have q2 := k1.cell 2
      have q3 := k1.cell 3
      have q4 := k1.cell 4
      simp at q0 q1 q2 q3 q4
      have f0 := k2.frozen 0
      have f1 := k2.frozen 1
      have f2 := k2.frozen 2
      have f3 := k2.frozen 3
      have f4 := k2.frozen 4
      have z0 := k2.cell 0
      have z1 := k2.cell 1
      have z2 := k2.cell 2
      have z3 := k2.cell 3
      have z4 := k2.cell 4
      simp at z0 z1 z2 z3 z4
      go_wp2_with fail
      have hb5 := below5 (g := w.heap.size) hb (Nat.le_refl _) (.int .u64 (e0 : Nat)) (.int .u64 (e1' : Nat)) (.int .u64 (e2 : Nat)) (.int .u64 (e3 : Nat)) (.bool e4)
      have k1n := whole5 k2 (.int .u64 (e0 : Nat)) (.int .u64 (e1' : Nat)) (.int .u64 (e2 : Nat)) (.int .u64 (e3 : Nat)) (.bool e4)
      generalize World.setCell (World.setCell (World.setCell (World.setCell (World.setCell _ _ _) _ _) _ _) _ _) _ _ = w9 at k1n hb5 ⊢
      clear q0 q1 q2 q3 q4 f0 f1 f2 f3 f4 z0 z1 z2 z3 z4
      have r0 := k1n.cell 0
      have r1 := k1n.cell 1
      have r2 := k1n.cell 2
      have r3 := k1n.cell 3
      have r4 := k1n.cell 4
      simp at r0 r1 r2 r3 r4
      rw [← HLA.out]
      simp only [Ls.v]
      simp [bodyPost, results, Try.results33, go_sem, r0, r1, r2, r3, r4]
      exact hb5

end Go.Proofs.Ythknhgakompggaa
