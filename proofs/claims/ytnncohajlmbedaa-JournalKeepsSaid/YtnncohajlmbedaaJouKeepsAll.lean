/-
  JournalKeeps returns true, for every input.
-/
import Derived.Test.YtnncohajlmbedaaJouKeeps
namespace Go.Proofs.Ytnncohajlmbedaa
open Go.RowKit
attribute [local go_sem] match_undef

set_option maxRecDepth 100000 in
set_option maxHeartbeats 4000000 in
theorem journalKeeps_many (w : World) (A : Option Addr) (N cap : Nat) (ls : List (List UInt8)) (h : RdRows w w.heap.size A N ls) (hN : N ≤ 9223372036854775807) (z : Int) (A2 : Option Addr) (m2 cap2 : Nat) (hr : decide ((∀ a (ha : a < ls.length), a < 11 → ls[a].length ≤ 200) ∧ N ≤ 10) = false) :
    Calls Try.prog 10 #[.slice A N cap, .int .i64 z, .slice A2 m2 cap2] w fun en w' => en = .returned (.bool true) ∧ Below w.heap.size w w' := by
  have H := Lib.hid h
  have HR := Lib.hid hr
  have hb : Below w.heap.size w w := Below.refl _ _
  clear h hr
  go_enter Try.func10, Try.ntmps10
  go_wp2_with fail
  refine (jfew_any w A N cap ls w.heap.size H.out hN false HR.out).mono ?_
  rintro en w1 ⟨rfl, rfl⟩
  go_wp2_with fail
  refine (jworks_any _).mono ?_
  rintro en wz ⟨rfl, hbz⟩
  replace hb := hb.trans (hbz.mono hb.size)
  go_wp2_with fail
  go_ret
  exact ⟨rfl, hb⟩

set_option maxRecDepth 100000 in
set_option maxHeartbeats 4000000 in
theorem journalKeeps_tail (w : World) (A : Option Addr) (N cap : Nat) (ls : List (List UInt8)) (h : RdRows w w.heap.size A N ls) (hN : N ≤ 9223372036854775807) (z : Int) (A2 : Option Addr) (m2 cap2 : Nat) (hr : decide ((∀ a (ha : a < ls.length), a < 11 → ls[a].length ≤ 200) ∧ N ≤ 10) = true) (hm2 : 100 < m2) :
    Calls Try.prog 10 #[.slice A N cap, .int .i64 z, .slice A2 m2 cap2] w fun en w' => en = .returned (.bool true) ∧ Below w.heap.size w w' := by
  have H := Lib.hid h
  have HR := Lib.hid hr
  have hb : Below w.heap.size w w := Below.refl _ _
  have d0 : decide ((100 : Int) < (m2 : Int)) = true := by simp; omega
  clear h hr
  go_enter Try.func10, Try.ntmps10
  go_wp2_with fail
  refine (jfew_any w A N cap ls w.heap.size H.out hN true HR.out).mono ?_
  rintro en w1 ⟨rfl, rfl⟩
  go_wp2_with fail
  refine (jworks_any _).mono ?_
  rintro en wz ⟨rfl, hbz⟩
  replace hb := hb.trans (hbz.mono hb.size)
  go_wp2_with fail
  go_ret
  exact ⟨rfl, hb⟩

theorem journalKeeps_any (w : World) (A : Option Addr) (N cap : Nat) (ls : List (List UInt8)) (h : RdRows w w.heap.size A N ls) (hc : N ≤ cap) (hN : N ≤ 9223372036854775807) (z : Int) (A2 : Option Addr) (m2 cap2 : Nat) (tl : List UInt8) (h2 : Rd w w.heap.size 1 A2 m2 (byts tl)) :
    Calls Try.prog 10 #[.slice A N cap, .int .i64 z, .slice A2 m2 cap2] w fun en w' => en = .returned (.bool true) ∧ Below w.heap.size w w' := by
  obtain ⟨r, hr⟩ : ∃ r, decide ((∀ a (ha : a < ls.length), a < 11 → ls[a].length ≤ 200) ∧ N ≤ 10) = r := ⟨_, rfl⟩
  cases r
  · exact journalKeeps_many w A N cap ls h hN z A2 m2 cap2 hr
  · by_cases hm : m2 ≤ 100
    · exact journalKeeps_good w A N cap ls h hc hN z A2 m2 cap2 tl h2 hm hr
    · exact journalKeeps_tail w A N cap ls h hN z A2 m2 cap2 hr (by omega)

end Go.Proofs.Ytnncohajlmbedaa
