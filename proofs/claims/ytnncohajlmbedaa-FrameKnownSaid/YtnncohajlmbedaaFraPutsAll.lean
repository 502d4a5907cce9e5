/-
  FramePuts returns true, for every row of frames.
-/
import Derived.Test.YtnncohajlmbedaaFraPuts
namespace Go.Proofs.Ytnncohajlmbedaa
open Go.RowKit
attribute [local go_sem] match_undef Oper.growAt Oper.growUpon GSpec.fix GSpec.row GSpec.wh GSpec.own GSpec.frow GSpec.fld
attribute [local irreducible] wpList

set_option maxRecDepth 100000 in
set_option maxHeartbeats 4000000 in
theorem framePuts_many (w : World) (A : Option Addr) (N cap : Nat) (fs : List Fr) (h : RdFr w w.heap.size A N fs) (hN : N ≤ 9223372036854775807) (hr : decide ((∀ a (ha : a < fs.length), a < 11 → fs[a].2.length ≤ 400) ∧ N ≤ 10) = false) (hN1 : N ≠ 1) :
    Calls Try.prog 5 #[.slice A N cap] w fun en w' => en = .returned (.bool true) ∧ Below w.heap.size w w' := by
  have H := Lib.hid h
  have hb : Below w.heap.size w w := Below.refl _ _
  have HR := Lib.hid hr
  have hn1 : ((N : Int) != 1) = true := by rw [bne_iff_ne]; omega
  clear h hr
  go_enter Try.func5, Try.ntmps5
  go_wp2_with fail
  refine (few_any w A N cap fs w.heap.size (Nat.le_refl _) H.out hN false HR.out).mono ?_
  rintro en w1 ⟨rfl, rfl⟩
  go_wp2_with fail
  refine (fworks_any _).mono ?_
  rintro en wz ⟨rfl, hbz⟩
  replace hb := hb.trans (hbz.mono hb.size)
  go_wp2_with fail
  go_ret
  exact ⟨rfl, hb⟩

set_option maxRecDepth 100000 in
set_option maxHeartbeats 4000000 in
theorem framePuts_mid (w : World) (A : Option Addr) (N cap : Nat) (fs : List Fr) (h : RdFr w w.heap.size A N fs) (hr : decide ((∀ a (ha : a < fs.length), a < 11 → fs[a].2.length ≤ 400) ∧ N ≤ 10) = false) (hN1 : N = 1) (hlen : ∀ (h0 : 0 < fs.length), fs[0].2.length ≤ 65535) :
    Calls Try.prog 5 #[.slice A N cap] w fun en w' => en = .returned (.bool true) ∧ Below w.heap.size w w' := by
  have HL := Lib.hid h.1
  have H := Lib.hid h
  have hb : Below w.heap.size w w := Below.refl _ _
  have HR := Lib.hid hr
  have h0l : 0 < fs.length := by rw [HL.out]; omega
  obtain ⟨b0, o0, A0, c0, rfl, hb0, hp0, hq0, hm0, hm02, hr0⟩ := H.out.2 0 h0l
  obtain ⟨m0, em0⟩ : ∃ m, fs[0].2.length = m := ⟨_, rfl⟩
  have hbig : m0 ≤ 65535 := by rw [← em0]; exact hlen h0l
  rw [em0] at hq0
  rw [Nat.zero_mul] at hq0
  rw [Nat.add_zero] at hq0
  have hN0 : (0 : Int) < (N : Int) := by omega
  have hn1 : ((N : Int) != 1) = false := by rw [hN1]; rfl
  have dm : decide ((m0 : Int) ≤ 65535) = true := by simp; omega
  have hN10 : N ≤ 10 := by omega
  clear hr hlen hr0 hp0 em0 hN1 h0l hm0 h
  go_enter Try.func5, Try.ntmps5
  go_wp2_with fail
  refine (few_any w _ N cap fs w.heap.size (Nat.le_refl _) H.out (by omega) false HR.out).mono ?_
  rintro en w1 ⟨rfl, rfl⟩
  go_wp2_with fail
  refine (fworks_any _).mono ?_
  rintro en wz ⟨rfl, hbz⟩
  replace hb := hb.trans (hbz.mono hb.size)
  go_wp2_with fail
  go_ret
  exact ⟨rfl, hb⟩

theorem framePuts_any (w : World) (A : Option Addr) (N cap : Nat) (fs : List Fr) (h : RdFr w w.heap.size A N fs) (hN : N ≤ 9223372036854775807) (hf : ∀ f ∈ fs, f.2.length ≤ 140737488351232) :
    Calls Try.prog 5 #[.slice A N cap] w fun en w' => en = .returned (.bool true) ∧ Below w.heap.size w w' := by
  obtain ⟨r, hr⟩ : ∃ r, decide ((∀ a (ha : a < fs.length), a < 11 → fs[a].2.length ≤ 400) ∧ N ≤ 10) = r := ⟨_, rfl⟩
  cases r
  · by_cases hN1 : N = 1
    · by_cases hl : ∀ (h0 : 0 < fs.length), fs[0].2.length ≤ 65535
      · exact framePuts_mid w A N cap fs h hr hN1 hl
      · refine framePuts_big w A N cap fs h hf hr hN1 fun h0 => ?_
        rcases Nat.lt_or_ge 65535 fs[0].2.length with h1 | h1
        · exact h1
        · exact absurd (fun _ => h1) hl
    · exact framePuts_many w A N cap fs h hN hr hN1
  · exact framePuts_few w A N cap fs h hf hr

end Go.Proofs.Ytnncohajlmbedaa
