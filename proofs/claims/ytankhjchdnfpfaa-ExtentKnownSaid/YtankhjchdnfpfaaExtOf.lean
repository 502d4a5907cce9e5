/-
  Files in parts: Of.
-/
import Derived.Test.YtankhjchdnfpfaaExtRead
namespace Go.Proofs.Ytankhjchdnfpfaa
open Go.RowKit
attribute [local go_sem] match_undef
/-- Bytes as parts. -/
def Exn.as_ (d : Bool) (ls : List (List UInt8)) : List Pa := ls.map fun b => (b, d)
def Exn.of_ (ls : List (List UInt8)) : List Pa := Exn.tidy (Exn.as_ true ls)
theorem Exn.as_snoc (d : Bool) {ls : List (List UInt8)} {j : Nat} (hj : j < ls.length) : Exn.as_ d (ls.take (j + 1)) = Exn.as_ d (ls.take j) ++ [(ls[j], d)] := by
  unfold Exn.as_
  rw [List.take_succ_eq_append_getElem hj, List.map_append]
  rfl
theorem Exn.app_as {ls : List (List UInt8)} {j : Nat} (hj : j < ls.length) : Exn.app (Exn.tidy (Exn.as_ false (ls.take j))) ls[j] = Exn.tidy (Exn.as_ false (ls.take (j + 1))) := by
  unfold Exn.app
  rw [Exn.as_snoc false hj, Exn.tidy_append, Exn.tidy_append, Exn.tidy_tidy]
theorem Exn.sync_as (ls : List (List UInt8)) : Exn.sync (Exn.tidy (Exn.as_ false ls)) = Exn.of_ ls := by
  unfold Exn.sync Exn.of_
  rw [Exn.tidy_tidy]
  unfold Exn.tidy Exn.as_
  rw [List.filter_map, List.filter_map, List.map_map]
  rfl
theorem Exn.as_le (d : Bool) (ls : List (List UInt8)) (j : Nat) : (Exn.tidy (Exn.as_ d (ls.take j))).length ≤ ls.length := by
  refine Nat.le_trans (Exn.tidy_le _) ?_
  unfold Exn.as_
  rw [List.length_map, List.length_take]
  omega
/-- A call hands back a file, its bytes in memory of the call's own. -/
def FileBack (fs : List Pa) (w : World) (en : Ending) (w' : World) : Prop :=
  ∃ A n c, en = .returned (.agg #[.slice A n c]) ∧ File w' (fun g => w.heap.size ≤ g) 52 5 A n c fs ∧ Below w.heap.size w w'
set_option maxRecDepth 100000 in
set_option maxHeartbeats 8000000 in
theorem eof_any (w : World) (A : Option Addr) (N cap : Nat) (ls : List (List UInt8)) (B : Nat) (hB : B ≤ w.heap.size) (h : RdRows w B A N ls) (hN : N ≤ 1000000) (hf : ∀ l ∈ ls, l.length ≤ 1000000) :
    Calls Try.prog 9 #[.slice A N cap] w (FileBack (Exn.of_ ls) w) := by
  have HL := Lib.hid h.1
  have H := Lib.hid h
  have HB := Lib.hid hB
  have HF := Lib.hid hf
  have hb1 := below1 w (.cells #[.slice none 0 0] 30)
  have hb2 := below1 (w.alloc (.cells #[.slice none 0 0] 30)) (.cells #[.slice none 0 0] 30)
  have HBB := Lib.hid (hb1.trans (hb2.mono hb1.size))
  have HW1 := Lib.hid ((Whole.new w 30 #[.slice none 0 0]).alloc (.cells #[.slice none 0 0] 30))
  have hw2 := Whole.new (w.alloc (.cells #[.slice none 0 0] 30)) 30 #[.slice none 0 0]
  have hsz : (w.alloc (.cells #[.slice none 0 0] 30)).heap.size = w.heap.size + 1 := by simp
  rw [hsz] at hw2
  have HW2 := Lib.hid hw2
  clear h hB hf hb1 hb2 hw2 hsz
  go_enter Try.func9, Try.ntmps9
  go_wp2_with fail
  go_loopw [5, 9] (fun _ i wr => ∃ (j : Nat), j ≤ N ∧ i = .int .i64 j ∧ Hid (Holds wr (w.heap.size + 1) (fun g => w.heap.size ≤ g) (Exn.tidy (Exn.as_ false (ls.take j)))) ∧ Hid (Whole wr w.heap.size 30 #[.slice none 0 0]) ∧ Below w.heap.size w wr) (fun _ i _ => N - (intOf i).toNat)
  case atStart => exact ⟨0, by omega, rfl, ⟨none, 0, 0, HW2.out, File.nil _ _ _ _⟩, HW1.out, HBB.out⟩
  case round =>
    obtain ⟨j, hj, rfl, HH, HW, hb⟩ := hrel
    by_cases hlt : j < N
    · have hjl : j < ls.length := by have := HL.out; omega
      obtain ⟨b1, o1, A1, m, c1, rfl, hbb, hp, hmc, hcm, hr⟩ := (H.out.below (hb.mono HB.out)).2 j hlt
      have hg : ls.getD j [] = ls[j] := by simp [List.getD, List.getElem?_eq_getElem hjl]
      rw [hg] at hr
      have hml := hr.blen
      have hm2 := HF.out _ (List.getElem_mem hjl)
      have hd : decide ((j : Int) < (N : Int)) = true := by simp; omega
      have d1 : (0 : Int) ≤ (j : Int) := by omega
      have d2 : (j : Int) < (N : Int) := by omega
      have HC := Lib.hid (app_any wr (w.heap.size + 1) (fun g => w.heap.size ≤ g) (fun g hg => Nat.le_trans hb.size hg) _ HH.out (Nat.le_trans (Exn.as_le _ _ _) (by rw [HL.out]; exact hN)) A1 m c1 ls[j] B (Nat.le_trans HB.out hb.size) hr (by omega))
      rw [Exn.app_as hjl] at HC
      clear hg hr hml hm2 hmc hcm
      go_wp2_with fail
      refine HC.out.mono ?_
      clear HC
      rintro en w2 hdone
      obtain ⟨rfl, h2, hg2⟩ := hdone.holds
      have HH2 := Lib.hid h2
      have HW3 := Lib.hid (HW.out.far_of hg2 (by omega))
      have hb3 : Below w.heap.size w w2 := hb.grown hg2 hb.size (fun k hk => by injection hk with hk; omega)
      clear h2 hg2 hdone HH HW hb
      go_wp2_with fail
      go_roundw
      case rel => exact ⟨j + 1, by omega, by go_num, HH2, HW3, hb3⟩
      case measure => simp [intOf] <;> omega
    · obtain rfl : j = N := by omega
      have ht : ls.take j = ls := List.take_of_length_le (by rw [HL.out]; omega)
      have hh := HH.out
      rw [ht] at hh
      have HC := Lib.hid (sync_any wr (w.heap.size + 1) (fun g => w.heap.size ≤ g) _ hh (Nat.le_trans (Exn.tidy_le _) (by unfold Exn.as_; rw [List.length_map, HL.out]; exact hN)))
      rw [Exn.sync_as] at HC
      clear hh ht HH
      go_wp2_with fail
      refine HC.out.mono ?_
      clear HC
      rintro en w2 hdone
      obtain ⟨rfl, ⟨A2, n2, c2, hw2, hf2⟩, hg2⟩ := hdone.holds
      have hw1 := HW.out.far_of hg2 (by omega)
      have q0 := hw1.cell 0
      have f0 := hw1.frozen 0
      have q1 := hw2.cell 0
      simp at q0 q1
      have hb3 : Below w.heap.size w w2 := hb.grown hg2 hb.size (fun k hk => by injection hk with hk; omega)
      have HF2 := Lib.hid hf2
      have HW4 := Lib.hid hw1
      clear hf2 hw1 hw2 hg2 hdone HW hb
      go_wp2_with fail
      have hgw := grow_put (w := w2) (g := w.heap.size) (.slice A2 n2 c2)
      have HF3 := Lib.hid (HF2.out.far HW4.out hgw part_ne.2.2.2.1 part_ne.2.2.1)
      have r0 := (HW4.out.put_ 0 (.slice A2 n2 c2)).cell 0
      simp at r0
      have hb4 := hb3.setCell (p := ⟨w.heap.size, 0, none⟩) (Nat.le_refl _) (.slice A2 n2 c2)
      have key : FileBack (Exn.of_ ls) w (.returned (.agg #[.slice A2 n2 c2])) (w2.setCell ⟨w.heap.size, 0, none⟩ (.slice A2 n2 c2)) := ⟨A2, n2, c2, rfl, HF3.out, hb4⟩
      clear hb4 hgw hb3 f0 q0 q1
      generalize w2.setCell ⟨w.heap.size, 0, none⟩ (.slice A2 n2 c2) = w9 at r0 key ⊢
      simp [bodyPost, results, Try.results9, go_sem, r0]
      exact key
end Go.Proofs.Ytankhjchdnfpfaa
