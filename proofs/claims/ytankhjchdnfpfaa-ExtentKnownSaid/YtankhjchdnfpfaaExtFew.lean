/-
  Files in parts: acts, the law's few.
-/
import Derived.Test.YtankhjchdnfpfaaExtFail
namespace Go.Proofs.Ytankhjchdnfpfaa
open Go.RowKit
attribute [local go_sem] match_undef
/-- An act: its kind, its bytes, what is told. -/
abbrev Ac := Int × List UInt8 × List Bool
def Ac.small (a : Ac) : Prop := a.2.1.length ≤ 30 ∧ a.2.2.length ≤ 30
instance (a : Ac) : Decidable a.small := inferInstanceAs (Decidable (_ ∧ _))
/-- A row of acts that reads as acts, all below block B. -/
def RdAc (w : World) (B : Nat) (A : Option Addr) (N : Nat) (acts : List Ac) : Prop :=
  acts.length = N ∧ ∀ j (hj : j < acts.length), ∃ b o A1 c1 A2 c2, A = some ⟨b, o, none⟩ ∧ b < B ∧ w.cell? ⟨b, o + j * 3, none⟩ = some (.int .i64 acts[j].1) ∧ w.cell? ⟨b, o + j * 3 + 1, none⟩ = some (.slice A1 acts[j].2.1.length c1) ∧ w.cell? ⟨b, o + j * 3 + 2, none⟩ = some (.slice A2 acts[j].2.2.length c2) ∧
    Rd w B 1 A1 acts[j].2.1.length (byts acts[j].2.1) ∧ acts[j].2.1.length ≤ c1 ∧ Rd w B 1 A2 acts[j].2.2.length (bools acts[j].2.2) ∧ acts[j].2.2.length ≤ c2
theorem RdAc.keep {w w' : World} {B N : Nat} {A : Option Addr} {acts : List Ac} (h : RdAc w B A N acts) (hk : ∀ p : Addr, p.block < B → w'.cell? p = w.cell? p) : RdAc w' B A N acts :=
  ⟨h.1, fun j hj => by
    obtain ⟨b, o, A1, c1, A2, c2, e, hb, h1, h2, h3, hr1, h4, hr2, h5⟩ := h.2 j hj
    exact ⟨b, o, A1, c1, A2, c2, e, hb, (hk _ hb).trans h1, (hk _ hb).trans h2, (hk _ hb).trans h3, hr1.keep hk, h4, hr2.keep hk, h5⟩⟩
theorem RdAc.more {w : World} {B B' N : Nat} {A : Option Addr} {acts : List Ac} (h : RdAc w B A N acts) (hB : B ≤ B') : RdAc w B' A N acts :=
  ⟨h.1, fun j hj => by
    obtain ⟨b, o, A1, c1, A2, c2, e, hb, h1, h2, h3, hr1, h4, hr2, h5⟩ := h.2 j hj
    exact ⟨b, o, A1, c1, A2, c2, e, by omega, h1, h2, h3, hr1.more hB, h4, hr2.more hB, h5⟩⟩
theorem RdAc.below {w w' : World} {B N : Nat} {A : Option Addr} {acts : List Ac} (h : RdAc w B A N acts) (hb : Below B w w') : RdAc w' B A N acts := h.keep fun _ hp => hb.cell hp
/-- Few acts, each small. -/
def Few (acts : List Ac) (top : Nat) : Prop := (∀ a (ha : a < acts.length), a < 100 → acts[a].small) ∧ acts.length ≤ top
theorem Few.all {acts : List Ac} {top : Nat} (h : Few acts top) (ht : top ≤ 100) : ∀ a ∈ acts, a.small := by
  intro a ha
  obtain ⟨i, hi, rfl⟩ := List.mem_iff_getElem.1 ha
  exact h.1 i hi (by have := h.2; omega)
set_option maxRecDepth 100000 in
set_option maxHeartbeats 4000000 in
theorem few_any (w : World) (A : Option Addr) (N cap : Nat) (acts : List Ac) (B : Nat) (h : RdAc w B A N acts) (hN : N ≤ 9223372036854775807) (top : Nat) (r : Bool) (hr : (r = true ↔ Few acts top)) :
    Calls Try.prog 6 #[.slice A N cap, .int .i64 (top : Nat)] w fun en w' => en = .returned (.bool r) ∧ w = w' := by
  have HR := Lib.hid hr
  have HL := Lib.hid h.1
  have H := Lib.hid h
  clear h hr
  go_enter Try.func6, Try.ntmps6
  go_wp2_with fail
  go_loopw [5] (fun i wr => ∃ j : Nat, j ≤ N ∧ j ≤ 100 ∧ i = .int .i64 j ∧ Hid (∀ a (ha : a < acts.length), a < j → acts[a].small) ∧ wr = w) (fun i _ => N - (intOf i).toNat)
  case atStart => exact ⟨0, by omega, by omega, rfl, fun a ha h0 => absurd h0 (by omega), rfl⟩
  case round =>
    obtain ⟨j, hj, hj11, rfl, HA, rfl⟩ := hrel
    by_cases hlt : j < N ∧ j < 100
    · obtain ⟨hlt, hl11⟩ := hlt
      have hjl : j < acts.length := by have := HL.out; omega
      obtain ⟨b1, o1, A1, c1, A2, c2, rfl, hb1, hp1, hq1, hs1, _⟩ := H.out.2 j hjl
      have hd : decide ((j : Int) < (N : Int)) = true := by simp; omega
      have hd2 : decide ((j : Int) < 100) = true := by simp; omega
      have d1 : (0 : Int) ≤ (j : Int) := by omega
      have d2 : (j : Int) < (N : Int) := by omega
      obtain ⟨m, hm⟩ : ∃ m, acts[j].2.1.length = m := ⟨_, rfl⟩
      obtain ⟨k, hk⟩ : ∃ m, acts[j].2.2.length = m := ⟨_, rfl⟩
      rw [hm] at hq1
      rw [hk] at hs1
      have HM := Lib.hid hm
      have HK := Lib.hid hk
      clear hm hk
      by_cases hov : 30 < m
      · have t1 : decide ((30 : Int) < (m : Int)) = true := by simp; omega
        have HRR := Lib.hid (show r = false from by
          have h1 := HR.out
          cases r with
          | false => rfl
          | true =>
            have h2 := ((h1.1 rfl).1 j hjl hl11).1
            rw [HM.out] at h2
            omega)
        clear hs1
        go_wp2_with fail
        go_ret
        exact ⟨by rw [HRR.out]; rfl, rfl⟩
      · have t1 : decide ((30 : Int) < (m : Int)) = false := by simp; omega
        by_cases hov2 : 30 < k
        · have t2 : decide ((30 : Int) < (k : Int)) = true := by simp; omega
          have HRR := Lib.hid (show r = false from by
            have h1 := HR.out
            cases r with
            | false => rfl
            | true =>
              have h2 := ((h1.1 rfl).1 j hjl hl11).2
              rw [HK.out] at h2
              omega)
          go_wp2_with fail
          go_ret
          exact ⟨by rw [HRR.out]; rfl, rfl⟩
        · have t2 : decide ((30 : Int) < (k : Int)) = false := by simp; omega
          have HA2 := Lib.hid (show ∀ a (ha : a < acts.length), a < j + 1 → acts[a].small from fun a ha h0 => by
            rcases Nat.lt_or_eq_of_le (Nat.le_of_lt_succ h0) with h1 | h1
            · exact HA.out a ha h1
            · subst h1
              exact ⟨by rw [HM.out]; omega, by rw [HK.out]; omega⟩)
          go_wp2_with fail
          go_roundw
          case rel => exact ⟨j + 1, by omega, by omega, by go_num, HA2, by first | rfl | trivial⟩
          case measure => simp [intOf] <;> omega
    · have HRR := Lib.hid (show decide (N ≤ top) = r from by
        have h1 := HR.out
        have h2 : Few acts top ↔ N ≤ top := by
          constructor
          · intro h0
            rw [← HL.out]
            exact h0.2
          · intro h0
            exact ⟨fun a ha h3 => HA.out a ha (by have := HL.out; omega), by rw [HL.out]; exact h0⟩
        rw [h2] at h1
        cases r with
        | false =>
          rw [decide_eq_false_iff_not]
          intro h3
          exact absurd (h1.2 (by omega)) (by simp)
        | true =>
          rw [decide_eq_true_eq]
          have := h1.1 rfl
          omega)
      by_cases h1 : j < N
      · have hd : decide ((j : Int) < (N : Int)) = true := by simp; omega
        have hd2 : decide ((j : Int) < 100) = false := by simp; omega
        go_wp2_with fail
        go_ret
        exact ⟨by rw [← HRR.out]; rfl, rfl⟩
      · have hd : decide ((j : Int) < (N : Int)) = false := by simp; omega
        go_wp2_with fail
        go_ret
        exact ⟨by rw [← HRR.out]; rfl, rfl⟩
end Go.Proofs.Ytankhjchdnfpfaa
