/-
  Records: small functions of the program, the document and the law.
-/
import Derived.Test.YtmobgamlednlhaaRecPlain
import Derived.Test.YtmobgamlednlhaaRecKinds
namespace Go.Proofs.Ytmobgamlednlhaa
open Go.RowKit
set_option maxRecDepth 100000 in
set_option maxHeartbeats 16000000 in
theorem word_any (w : World) (k : Nat) (hk : k < 256) : Calls Try.prog 16 #[.int .u8 (k : Nat)] w fun en w' => en = .returned (.string ⟨(Rc.word k).toArray⟩) ∧ Below w.heap.size w w' := by
  by_cases h12 : k < 12
  · have hc : k = 0 ∨ k = 1 ∨ k = 2 ∨ k = 3 ∨ k = 4 ∨ k = 5 ∨ k = 6 ∨ k = 7 ∨ k = 8 ∨ k = 9 ∨ k = 10 ∨ k = 11 := by omega
    clear h12 hk
    rcases hc with rfl | rfl | rfl | rfl | rfl | rfl | rfl | rfl | rfl | rfl | rfl | rfl
    all_goals
      go_enter Try.func16, Try.ntmps16
      go_wp2_with fail
      go_ret
      exact ⟨rfl, by first | exact belowK _ _ | exact Below.refl _ _⟩
  · have hz : (Rc.word k) = [] := by
      unfold Rc.word Rc.words
      rw [List.getD_eq_getElem?_getD, List.getElem?_eq_none (by simp; omega)]
      rfl
    rw [hz]
    have d1 : decide ((k : Int) < 12) = false := by simp; omega
    have d2 : decide ((11 : Int) < (k : Int)) = true := by simp; omega
    have e1 : IntKind.i64.wrap (k : Int) = (k : Int) := by rw [IntKind.wrap_i64]; omega
    clear hz
    go_enter Try.func16, Try.ntmps16
    go_wp2_with fail
    go_ret
    exact ⟨rfl, by first | exact belowK _ _ | exact Below.refl _ _⟩
set_option maxRecDepth 100000 in
set_option maxHeartbeats 16000000 in
theorem rword_any (w : World) (k : Nat) (hk : k < 256) : Calls Try.prog 17 #[.int .u8 (k : Nat)] w fun en w' => en = .returned (.string ⟨(Rc.word k).toArray⟩) ∧ Below w.heap.size w w' := by
  by_cases h12 : k < 12
  · have hc : k = 0 ∨ k = 1 ∨ k = 2 ∨ k = 3 ∨ k = 4 ∨ k = 5 ∨ k = 6 ∨ k = 7 ∨ k = 8 ∨ k = 9 ∨ k = 10 ∨ k = 11 := by omega
    clear h12 hk
    rcases hc with rfl | rfl | rfl | rfl | rfl | rfl | rfl | rfl | rfl | rfl | rfl | rfl
    all_goals
      go_enter Try.func17, Try.ntmps17
      go_wp2_with fail
      go_ret
      exact ⟨rfl, by first | exact belowK _ _ | exact Below.refl _ _⟩
  · have hz : (Rc.word k) = [] := by
      unfold Rc.word Rc.words
      rw [List.getD_eq_getElem?_getD, List.getElem?_eq_none (by simp; omega)]
      rfl
    rw [hz]
    have d1 : decide ((k : Int) < 12) = false := by simp; omega
    have d2 : decide ((11 : Int) < (k : Int)) = true := by simp; omega
    have e1 : IntKind.i64.wrap (k : Int) = (k : Int) := by rw [IntKind.wrap_i64]; omega
    clear hz
    go_enter Try.func17, Try.ntmps17
    go_wp2_with fail
    go_ret
    exact ⟨rfl, by first | exact belowK _ _ | exact Below.refl _ _⟩
set_option maxRecDepth 100000 in
set_option maxHeartbeats 16000000 in
theorem parts_any (w : World) (k : Nat) (hk : k < 256) : Calls Try.prog 24 #[.int .u8 (k : Nat)] w fun en w' => en = .returned (.string ⟨(Rc.letters k).toArray⟩) ∧ Below w.heap.size w w' := by
  by_cases h12 : k < 12
  · have hc : k = 0 ∨ k = 1 ∨ k = 2 ∨ k = 3 ∨ k = 4 ∨ k = 5 ∨ k = 6 ∨ k = 7 ∨ k = 8 ∨ k = 9 ∨ k = 10 ∨ k = 11 := by omega
    clear h12 hk
    rcases hc with rfl | rfl | rfl | rfl | rfl | rfl | rfl | rfl | rfl | rfl | rfl | rfl
    all_goals
      go_enter Try.func24, Try.ntmps24
      go_wp2_with fail
      go_ret
      exact ⟨rfl, by first | exact belowK _ _ | exact Below.refl _ _⟩
  · have hz : (Rc.letters k) = [] := by
      unfold Rc.letters
      rw [List.getD_eq_getElem?_getD, List.getElem?_eq_none (by simp; omega)]
      rfl
    rw [hz]
    have d1 : decide ((k : Int) < 12) = false := by simp; omega
    have d2 : decide ((11 : Int) < (k : Int)) = true := by simp; omega
    have e1 : IntKind.i64.wrap (k : Int) = (k : Int) := by rw [IntKind.wrap_i64]; omega
    clear hz
    go_enter Try.func24, Try.ntmps24
    go_wp2_with fail
    go_ret
    exact ⟨rfl, by first | exact belowK _ _ | exact Below.refl _ _⟩
set_option maxRecDepth 100000 in
set_option maxHeartbeats 16000000 in
theorem number_any (w : World) (r : Rc) (c : Nat) : Calls Try.prog 29 #[r.val, .int .u8 (c : Nat)] w fun en w' => en = .returned (.int .u64 (r.num c : Nat)) ∧ Below w.heap.size w w' := by
  have hb := belowK w (.cells r.cells 31)
  obtain ⟨k, n0, n1, n2, n3, n4, n5, n6, n7, n8, s0, s1⟩ := r
  simp only [Rc.val, Rc.cells] at hb ⊢
  by_cases h101 : c = 101
  · subst h101
    go_enter Try.func29, Try.ntmps29
    go_wp2_with fail
    go_ret
    exact ⟨by simp [Rc.num, *], hb⟩
  · have b101 : ((c : Int) == 101) = false := by simp; omega
    by_cases h117 : c = 117
    · subst h117
      go_enter Try.func29, Try.ntmps29
      go_wp2_with fail
      go_ret
      exact ⟨by simp [Rc.num, *], hb⟩
    · have b117 : ((c : Int) == 117) = false := by simp; omega
      by_cases h118 : c = 118
      · subst h118
        go_enter Try.func29, Try.ntmps29
        go_wp2_with fail
        go_ret
        exact ⟨by simp [Rc.num, *], hb⟩
      · have b118 : ((c : Int) == 118) = false := by simp; omega
        by_cases h115 : c = 115
        · subst h115
          go_enter Try.func29, Try.ntmps29
          go_wp2_with fail
          go_ret
          exact ⟨by simp [Rc.num, *], hb⟩
        · have b115 : ((c : Int) == 115) = false := by simp; omega
          by_cases h99 : c = 99
          · subst h99
            go_enter Try.func29, Try.ntmps29
            go_wp2_with fail
            go_ret
            exact ⟨by simp [Rc.num, *], hb⟩
          · have b99 : ((c : Int) == 99) = false := by simp; omega
            go_enter Try.func29, Try.ntmps29
            go_wp2_with fail
            go_ret
            exact ⟨by simp [Rc.num, *], hb⟩
set_option maxRecDepth 100000 in
set_option maxHeartbeats 16000000 in
theorem textOf_any (w : World) (r : Rc) (c : Nat) : Calls Try.prog 27 #[r.val, .int .u8 (c : Nat)] w fun en w' => en = .returned (.string (r.txt c)) ∧ Below w.heap.size w w' := by
  have hb := belowK w (.cells r.cells 31)
  obtain ⟨k, n0, n1, n2, n3, n4, n5, n6, n7, n8, s0, s1⟩ := r
  simp only [Rc.val, Rc.cells] at hb ⊢
  by_cases h110 : c = 110
  · subst h110
    go_enter Try.func27, Try.ntmps27
    go_wp2_with fail
    go_ret
    exact ⟨by simp [Rc.txt, *], hb⟩
  · have b110 : ((c : Int) == 110) = false := by simp; omega
    go_enter Try.func27, Try.ntmps27
    go_wp2_with fail
    go_ret
    exact ⟨by simp [Rc.txt, *], hb⟩
set_option maxRecDepth 100000 in
set_option maxHeartbeats 16000000 in
theorem isText_any (w : World) (c : Nat) : Calls Try.prog 25 #[.int .u8 (c : Nat)] w fun en w' => en = .returned (.bool (Rc.isText c)) ∧ Below w.heap.size w w' := by
  by_cases h110 : c = 110
  · subst h110
    go_enter Try.func25, Try.ntmps25
    go_wp2_with fail
    go_ret
    exact ⟨by simp [Rc.isText, *], Below.refl _ _⟩
  · have b110 : ((c : Int) == 110) = false := by simp; omega
    by_cases h116 : c = 116
    · subst h116
      go_enter Try.func25, Try.ntmps25
      go_wp2_with fail
      go_ret
      exact ⟨by simp [Rc.isText, *], Below.refl _ _⟩
    · have b116 : ((c : Int) == 116) = false := by simp; omega
      go_enter Try.func25, Try.ntmps25
      go_wp2_with fail
      go_ret
      exact ⟨by simp [Rc.isText, *], Below.refl _ _⟩
end Go.Proofs.Ytmobgamlednlhaa
