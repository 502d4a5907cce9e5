/-
  Files in parts: empty parts are left out: slices.IndexFunc, slices.DeleteFunc, tidy.
-/
import Derived.Test.YtankhjchdnfpfaaExtKit
import Derived.WalkMore
import Derived.Shelf.Abstract
import Derived.OwnWalkIn
namespace Go.Proofs.Ytankhjchdnfpfaa
open Go.RowKit

set_option maxRecDepth 100000 in
set_option maxHeartbeats 1000000 in
theorem empty_any (w : World) (A : Option Addr) (n c : Nat) (d : Bool) :
    Calls Try.prog 36 #[.agg #[.slice A n c, .bool d]] w fun en w' => en = .returned (.bool (decide (n = 0))) ∧ Below w.heap.size w w' := by
  have hb := below1 w (.cells #[.slice A n c, .bool d] 52)
  by_cases h : n = 0
  · subst h
    go_enter Try.func36, Try.ntmps36
    go_wp2_with fail
    go_ret
    exact ⟨rfl, hb⟩
  · have e1 : ((n : Int) == 0) = false := by rw [beq_eq_false_iff_ne]; omega
    have e2 : decide (n = 0) = false := by simp [h]
    have E2 := Lib.hid e2
    clear e2 h
    go_enter Try.func36, Try.ntmps36
    go_wp2_with fail
    go_ret
    exact ⟨by rw [E2.out]; rfl, hb⟩
theorem empty_enters : ∀ args w, (callFunc 36 args).run Try.prog w = .ok (.enter 36 args) w := enters_of Try.func36 (by kernel_rfl) rfl
/-- The first that is empty. -/
def FirstEmpty (fs : List Pa) (r : Int) : Prop := (r = -1 ∧ ∀ p ∈ fs, 0 < p.1.length) ∨ ∃ k : Nat, r = k ∧ ∃ hk : k < fs.length, fs[k].1.length = 0 ∧ ∀ p ∈ fs.take k, 0 < p.1.length
set_option maxRecDepth 100000 in
set_option maxHeartbeats 4000000 in
theorem pindex_any (w : World) (A : Option Addr) (N cap : Nat) (fs : List Pa) (B : Nat) (hB : B ≤ w.heap.size) (h : RdPa w B A N fs) (hN : N ≤ 1000000000) :
    Calls Try.prog 37 #[.slice A N cap, .func (.func 36) #[] #[]] w fun en w' => ∃ r, en = .returned (.int .i64 r) ∧ FirstEmpty fs r ∧ Below w.heap.size w w' := by
  have HB := Lib.hid hB
  have HL := Lib.hid h.1
  have H := Lib.hid h
  have eg := empty_enters
  clear h hB
  go_enter Try.func37, Try.ntmps37
  go_wp2_with fail
  go_loopw [5, 8] (fun _ i wr => ∃ (j : Nat), j ≤ N ∧ i = .int .i64 j ∧ Hid (∀ p ∈ fs.take j, 0 < p.1.length) ∧ Below w.heap.size w wr) (fun _ i _ => N - (intOf i).toNat)
  case atStart => exact ⟨0, by omega, rfl, fun p hp => by simp at hp, Below.refl _ _⟩
  case round =>
    obtain ⟨j, hj, rfl, HA, hb⟩ := hrel
    by_cases hlt : j < N
    · have hjl : j < fs.length := by have := HL.out; omega
      obtain ⟨b1, o1, A1, c1, rfl, hb1, hp1, hq1, hm1, hm2, hr1⟩ := (H.out.below (hb.mono HB.out)).2 j hjl
      have hd : decide ((j : Int) < (N : Int)) = true := by simp; omega
      have d1 : (0 : Int) ≤ (j : Int) := by omega
      have d2 : (j : Int) < (N : Int) := by omega
      have HTK := Lib.hid (show fs.take (j + 1) = fs.take j ++ [fs[j]] from by rw [List.take_succ_eq_append_getElem hjl])
      obtain ⟨m, hm⟩ : ∃ m, fs[j].1.length = m := ⟨_, rfl⟩
      obtain ⟨d, hd2⟩ : ∃ m, fs[j].2 = m := ⟨_, rfl⟩
      rw [hm] at hp1
      rw [hd2] at hq1
      have HM := Lib.hid hm
      clear hm hd2 hr1 hm1 hm2
      have hcall := empty_any wr A1 m c1 d
      by_cases h0 : m = 0
      · subst h0
        go_wp2_with (go_at_fn 36; refine hcall.mono ?_; rintro e w' ⟨rfl, hb'⟩)
        go_ret
        exact ⟨_, rfl, .inr ⟨j, rfl, hjl, HM.out, HA.out⟩, hb.trans (hb'.mono hb.size)⟩
      · have e0 : decide (m = 0) = false := by simp [h0]
        rw [e0] at hcall
        have HA2 := Lib.hid (show ∀ p ∈ fs.take (j + 1), 0 < p.1.length from by
          rw [HTK.out]
          intro p hp
          rcases List.mem_append.1 hp with h | h
          · exact HA.out p h
          · simp at h
            subst h
            rw [HM.out]
            omega)
        clear e0 h0
        go_wp2_with (go_at_fn 36; refine hcall.mono ?_; rintro e w' ⟨rfl, hb'⟩)
        have hb3 := hb.trans (hb'.mono hb.size)
        clear hb' hcall
        go_roundw
        case rel => exact ⟨j + 1, by omega, by go_num, HA2, hb3⟩
        case measure => simp [intOf] <;> omega
    · obtain rfl : j = N := by omega
      go_wp2_with fail
      go_ret
      exact ⟨_, rfl, .inl ⟨rfl, fun p hp => HA.out p (by rw [List.take_of_length_le (by rw [HL.out]; omega)]; exact hp)⟩, hb⟩
theorem own_block {w : World} {base : Nat} {e : TypeId} {s n : Nat} {g : Nat} {c : Nat} {xs : List Value} (h : w.ownsRow base e s (.slice (some ⟨g, 0, none⟩) n c) n xs) : ∃ cur, Whole w g e cur ∧ cur.size = c * s ∧ cur.toList.take (n * s) = xs ∧ base ≤ g := by
  rcases h.2 with ⟨hv, h0⟩ | ⟨g', cap, cur, hv, hb, hh, _, _, hs, ht⟩
  · cases hv
  · injection hv with h1 h2 h3
    injection h1 with h1
    injection h1 with h1
    subst h1
    subst h3
    exact ⟨cur, hh, hs, ht, hb⟩
theorem own_cell {w : World} {base : Nat} {e : TypeId} {s n : Nat} {g : Nat} {c : Nat} {xs : List Value} (h : w.ownsRow base e s (.slice (some ⟨g, 0, none⟩) n c) n xs) {k : Nat} {u : Value} (hk : xs[k]? = some u) : w.cell? ⟨g, k, none⟩ = some u := by
  have h1 := h.cells (g := g) rfl k u hk
  have e : (⟨g, 0, none⟩ : Addr).add k = ⟨g, k, none⟩ := by
    unfold Addr.add
    by_cases h0 : k = 0
    · subst h0; rfl
    · simp [h0]
  rwa [e] at h1
/-- A row, cut shorter, whose front is as it was. -/
theorem own_cut {w w' : World} {base : Nat} {e : TypeId} {s n : Nat} {g : Nat} {c i : Nat} {xs : List Value} {cur : Array Value} (h : w.ownsRow base e s (.slice (some ⟨g, 0, none⟩) n c) n xs) (hw : Whole w' g e cur) (hs : cur.size = c * s) (ht : cur.toList.take (i * s) = xs.take (i * s)) (hi : i ≤ n) :
    w'.ownsRow base e s (.slice (some ⟨g, 0, none⟩) i c) i (xs.take (i * s)) := by
  have hc := own_cap h
  have hl := h.1
  obtain ⟨_, _, _, _, hb⟩ := own_block h
  refine ⟨?_, .inr ⟨g, c, cur, rfl, hb, hw, by omega, hc.2, hs, ht⟩⟩
  rw [List.length_take, hl]
  exact Nat.min_eq_left (Nat.mul_le_mul_right _ hi)
theorem partZ : ∀ j z, Try.prog.info? 52 = some j → j.zero = some z → ∀ u ∈ z.cells, u.oneCell' = true := by
  intro j z hj hz
  obtain ⟨_, i, z', hi, hz', _, _, _, _⟩ := partV
  have e : z = .agg #[.slice none 0 0, .bool false] := by
    have h : (Try.prog.info? 52).map (fun i => i.zero) = some (some (.agg #[.slice none 0 0, .bool false])) := by kernel_rfl
    rw [hj] at h
    simp [hz] at h
    exact h
  subst e
  intro u hu
  simp [Value.cells] at hu
  rcases hu with rfl | rfl <;> rfl
/-- Where one stands in DeleteFunc: i parts are kept, j were looked at. -/
def Mid (fs gs : List Pa) (i j : Nat) : Prop := gs.length = fs.length ∧ gs.take i = Exn.tidy (fs.take j) ∧ gs.drop j = fs.drop j
theorem Mid.at {fs gs : List Pa} {i j : Nat} (h : Mid fs gs i j) (hj : j < fs.length) (hj2 : j < gs.length) : gs[j] = fs[j] := by
  have h1 : (gs.drop j)[0]? = (fs.drop j)[0]? := by rw [h.2.2]
  rw [List.getElem?_drop, List.getElem?_drop, Nat.add_zero, List.getElem?_eq_getElem hj, List.getElem?_eq_getElem hj2] at h1
  injection h1
theorem Mid.skip {fs gs : List Pa} {i j : Nat} (h : Mid fs gs i j) (hj : j < fs.length) (h0 : fs[j].1.length = 0) : Mid fs gs i (j + 1) := by
  refine ⟨h.1, ?_, ?_⟩
  · rw [h.2.1, List.take_succ_eq_append_getElem hj, Exn.tidy_append, Exn.tidy_one, if_neg (by omega), List.append_nil]
  · rw [← List.drop_drop, h.2.2, List.drop_drop]
theorem Mid.put {fs gs : List Pa} {i j : Nat} (h : Mid fs gs i j) (hj : j < fs.length) (hi : i < j) (h0 : 0 < fs[j].1.length) : Mid fs (gs.set i fs[j]) (i + 1) (j + 1) := by
  have hl := h.1
  refine ⟨by rw [List.length_set, h.1], ?_, ?_⟩
  · rw [List.take_succ_eq_append_getElem (by rw [List.length_set]; omega), List.getElem_set_self, List.take_set_of_le (Nat.le_refl _), h.2.1, List.take_succ_eq_append_getElem hj, Exn.tidy_append, Exn.tidy_one, if_pos h0]
  · rw [List.drop_set_of_lt (by omega), ← List.drop_drop, h.2.2, List.drop_drop]
set_option maxRecDepth 100000 in
set_option maxHeartbeats 8000000 in
theorem pdelete_any (w : World) (A : Option Addr) (n cap : Nat) (fs : List Pa) (G : Nat → Prop) (h : File w G 52 5 A n cap fs) (hn : n ≤ 1000000000) :
    Calls Try.prog 34 #[.slice A n cap, .func (.func 36) #[] #[]] w fun en w' => en = .returned (.slice A (Exn.tidy fs).length cap) ∧ File w' G 52 5 A (Exn.tidy fs).length cap (Exn.tidy fs) ∧ w.grownBy w' (Value.slice A n cap).ownBlock ∧ Below 0 w w' := by
  have HX := Lib.hid (pindex_any w A n cap fs w.heap.size (Nat.le_refl _) h.rd hn)
  have HB := Lib.hid (Nat.zero_le w.heap.size)
  have eg := empty_enters
  obtain ⟨hl, vs, h1, h2⟩ := h
  have HL := Lib.hid hl
  have H1 := Lib.hid h1
  have H2 := Lib.hid h2
  clear hl h1 h2
  go_enter Try.func34, Try.ntmps34
  go_wp2_with fail
  refine HX.out.mono ?_
  clear HX
  rintro en w1 ⟨r, rfl, hr, hb1⟩
  have HG1 := Lib.hid (show w.grownBy w1 (Value.slice A n cap).ownBlock from ⟨hb1.os, hb1.tape, hb1.output, hb1.size, fun k hk _ => hb1.block k hk⟩)
  have HBB := Lib.hid (hb1.mono HB.out)
  replace H1 := Lib.hid (own_ext H1.out hb1)
  replace H2 := Lib.hid (H2.out.ext hb1)
  clear hb1
  rcases hr with ⟨rfl, hall⟩ | ⟨k, rfl, hk, hk0, hall⟩
  · have HT := Lib.hid (Exn.tidy_all hall)
    clear hall
    go_wp2_with fail
    go_ret
    rw [HT.out, HL.out]
    exact ⟨rfl, ⟨HL.out, vs, H1.out, H2.out⟩, HG1.out, HBB.out⟩
  · have hkn : k < n := by have := HL.out; omega
    have HM0 := Lib.hid (show Mid fs fs k (k + 1) from ⟨rfl, by rw [List.take_succ_eq_append_getElem hk, Exn.tidy_append, Exn.tidy_one, if_neg (by omega), List.append_nil, Exn.tidy_all hall], rfl⟩)
    clear hall hk0
    have t0 : ((k : Int) == -1) = false := by rw [beq_eq_false_iff_ne]; omega
    obtain ⟨g, hA⟩ : ∃ g, A = some ⟨g, 0, none⟩ := by
      obtain ⟨g, _, e, _⟩ := own_whole H1.out (by omega)
      exact ⟨g, e⟩
    subst hA
    go_wp2_with fail
    go_loopw [5, 6, 7] (fun i j _ wr => ∃ (i' j' : Nat) (gs : List Pa) (us : List Value), i' < j' ∧ j' ≤ n ∧ i = .int .i64 i' ∧ j = .int .i64 j' ∧ Hid (Mid fs gs i' j') ∧ Hid (wr.ownsRow 0 52 2 (.slice (some ⟨g, 0, none⟩) n cap) n us) ∧ Hid (OwnPa wr G 5 gs us) ∧ w.grownBy wr (some g) ∧ Below 0 w wr) (fun _ j _ _ => n - (intOf j).toNat)
    case atStart => exact ⟨k, k + 1, fs, vs, by omega, by omega, rfl, by go_num, HM0.out, H1.out, H2.out, HG1.out, HBB.out⟩
    case round =>
      obtain ⟨i, j, gs, us, hij, hj, rfl, rfl, HM, HO, HP, hg, hb⟩ := hrel
      have hcap := own_cap HO.out
      have hml := HM.out.1
      obtain ⟨cur, hw, hsz, htk, hgb⟩ := own_block HO.out
      have HW := Lib.hid hw
      have HSZ := Lib.hid hsz
      have HTK := Lib.hid htk
      have hci : ¬ cap = i := by omega
      clear hw hsz htk
      by_cases hlt : j < n
      · have hjl : j < fs.length := by have := HL.out; omega
        have hjg : j < gs.length := by omega
        have hgl := HW.out.lt
        obtain ⟨A1, c1, hp1, hq1, ho1, hG1⟩ := HP.out.2 j hjg
        obtain ⟨A2, c2, hp2, hq2, _, _⟩ := HP.out.2 i (by omega)
        rw [HM.out.at hjl hjg] at hp1 hq1 ho1
        have HP1 := Lib.hid hp1
        have HQ1 := Lib.hid hq1
        replace hp1 := own_cell HO.out hp1
        replace hq1 := own_cell HO.out hq1
        replace hp2 := own_cell HO.out hp2
        replace hq2 := own_cell HO.out hq2
        have hd : decide ((j : Int) < (n : Int)) = true := by simp; omega
        have d1 : (0 : Int) ≤ (j : Int) := by omega
        have d2 : (j : Int) < (n : Int) := by omega
        have d3 : (0 : Int) ≤ (i : Int) := by omega
        have d4 : (i : Int) < (n : Int) := by omega
        obtain ⟨p, hp⟩ : ∃ p, fs[j] = p := ⟨_, rfl⟩
        have HF := Lib.hid hp
        rw [hp] at hp1 hq1 ho1
        obtain ⟨l, d⟩ := p
        simp only at hp1 hq1 ho1
        obtain ⟨m, hm⟩ : ∃ m, l.length = m := ⟨_, rfl⟩
        rw [hm] at hp1 ho1
        have HLM := Lib.hid hm
        have HO1 := Lib.hid ho1
        have HGG := Lib.hid hG1
        clear hp hm ho1 hG1
        have hcall := empty_any (wr.alloc (.cells #[.slice A1 m c1, .bool d] 52)) A1 m c1 d
        have K := Lib.hid (Whole.new wr 52 #[.slice A1 m c1, .bool d])
        have hba := below1 wr (.cells #[.slice A1 m c1, .bool d] 52)
        by_cases h0 : m = 0
        · have e0 : decide (m = 0) = true := by simp [h0]
          rw [e0] at hcall
          have HM2 := Lib.hid (HM.out.skip hjl (by rw [HF.out]; show l.length = 0; rw [HLM.out]; exact h0))
          clear e0 h0
          go_wp2_with (go_at_fn 36; refine hcall.mono ?_; rintro e w' ⟨rfl, hb'⟩)
          have hb2 := hba.trans (hb'.mono hba.size)
          have HO2 := Lib.hid (own_ext HO.out hb2)
          have HP2 := Lib.hid (HP.out.ext hb2)
          have hg2 : w.grownBy w' (some g) := hg.trans ⟨hb2.os, hb2.tape, hb2.output, hb2.size, fun k hk _ => hb2.block k hk⟩
          have hb3 := hb.trans (hb2.mono (Nat.le_trans HB.out hb.size))
          clear hcall hb' hba hb2 hp1 hq1 hp2 hq2
          go_roundw
          case rel => exact ⟨i, j + 1, gs, us, by omega, by omega, rfl, by go_num, HM2, HO2, HP2, hg2, hb3⟩
          case measure => simp [intOf] <;> omega
        · have e0 : decide (m = 0) = false := by simp [h0]
          rw [e0] at hcall
          have HM2 := Lib.hid (HM.out.put hjl hij (by rw [HF.out]; show 0 < l.length; rw [HLM.out]; omega))
          clear e0 h0
          have hgne : g ≠ wr.heap.size := by omega
          go_wp2_with (go_at_fn 36; refine hcall.mono ?_; rintro e w' ⟨rfl, hb'⟩; have hb2 := hba.trans (hb'.mono hba.size); have K2 := K.out.below hb' K.out.lt; have q0 := K2.cell 0; have q1 := K2.cell 1; simp at q0 q1; have W2 := HW.out.below hb2 hgl; have f0 := W2.frozen (i * 2); have f1 := W2.frozen (i * 2 + 1); replace hp2 := (hb2.cell (p := ⟨g, i * 2, none⟩) hgl).trans hp2; replace hq2 := (hb2.cell (p := ⟨g, i * 2 + 1, none⟩) hgl).trans hq2; have HO2 := Lib.hid (own_ext HO.out hb2); have HP2 := Lib.hid (HP.out.ext hb2); have hg2 : w.grownBy w' (some g) := hg.trans ⟨hb2.os, hb2.tape, hb2.output, hb2.size, fun k hk _ => hb2.block k hk⟩; have hb3 := hb.trans (hb2.mono (Nat.le_trans HB.out hb.size)); have W3 := Lib.hid W2; have HO4 := Lib.hid (own_ext HO1.out hb2); clear hcall hb' hba hb2 hp1 hq1 W2 K2)
          have hst1 := HO2.out.stored (i * 2) (.slice A1 m c1)
          have hst2 := hst1.1.stored (i * 2 + 1) (.bool d)
          have HST1 := Lib.hid hst1
          have HST2 := Lib.hid hst2
          clear hst1 hst2
          have hf : fs[j] = (l, d) := HF.out
          have hg3 := (hg2.trans HST1.out.2).trans HST2.out.2
          have hb4 := (hb3.setCell (p := ⟨g, i * 2, none⟩) hgb (.slice A1 m c1)).setCell (p := ⟨g, i * 2 + 1, none⟩) hgb (.bool d)
          have HP3 := Lib.hid ((HP2.out.put (i := i) (by omega) (d := d) HLM.out HO4.out HGG.out).keep fun _ _ _ ho => own_far (own_far ho W3.out HST1.out.2 part_ne.1) (W3.out.put_ _ _) HST2.out.2 part_ne.1)
          rw [hf] at HM2
          go_roundw
          case rel => exact ⟨i + 1, j + 1, _, _, by omega, by omega, by go_num, by go_num, HM2, HST2.out.1, HP3, hg3, hb4⟩
          case measure => simp [intOf] <;> omega
      · obtain rfl : j = n := by omega
        have hfit : i * 2 + (j - i) * 2 ≤ cur.size := by rw [HSZ.out]; omega
        have HFIT := Lib.hid hfit
        have d5 : (i : Int) ≤ (cap : Int) := by omega
        have hgb2 := hgb
        clear hfit
        obtain ⟨cur', w3, hrun, hw3, hsz3, htk3, hg3⟩ := run_clear_own (P := Try.prog) wr (ty := 0) partV g i (j - i) (cap - i) cur HW.out (by omega) HFIT.out partZ
        have HW3 := Lib.hid hw3
        have HS3 := Lib.hid hsz3
        have HT3 := Lib.hid htk3
        have HG3 := Lib.hid hg3
        clear hw3 hsz3 htk3 hg3
        go_wp2_with fail
        go_ret
        have ht : Exn.tidy fs = gs.take i := by rw [HM.out.2.1, List.take_of_length_le (by rw [HL.out]; omega)]
        have hti : (Exn.tidy fs).length = i := by rw [ht, List.length_take]; have := HL.out; omega
        rw [hti, ht]
        have hcut : cur'.toList.take (i * 2) = us.take (i * 2) := by rw [HT3.out, ← HTK.out, List.take_take, Nat.min_eq_left (by omega)]
        refine ⟨rfl, ⟨by rw [List.length_take]; have := HL.out; omega, us.take (i * 2), own_cut HO.out HW3.out (by rw [HS3.out, HSZ.out]) hcut (by omega), ((HP.out.take (by have := HL.out; omega)).keep fun _ _ _ ho => own_far ho HW.out HG3.out part_ne.1)⟩, hg.trans HG3.out, hb.grown HG3.out (Nat.le_trans HB.out hb.size) (fun k hk => ?_)⟩
        injection hk with hk
        subst hk
        exact hgb2
/-- A file's variable, and what it holds. -/
def Holds (w : World) (gf : Nat) (G : Nat → Prop) (fs : List Pa) : Prop := ∃ A n c, Whole w gf 30 #[.slice A n c] ∧ File w G 52 5 A n c fs
/-- A call on it leaves fs, and turns nothing else. -/
def Done (gf : Nat) (G : Nat → Prop) (fs : List Pa) (w : World) (en : Ending) (w' : World) : Prop := en = .returned (.tuple #[]) ∧ (∃ A c vs, Whole w' gf 30 #[.slice A fs.length c] ∧ w'.ownsRow w.heap.size 52 2 (.slice A fs.length c) fs.length vs ∧ OwnPa w' G 5 fs vs) ∧ w.grownBy w' (some gf)
theorem Done.holds {gf : Nat} {G : Nat → Prop} {fs : List Pa} {w w' : World} {en : Ending} (h : Done gf G fs w en w') : en = .returned (.tuple #[]) ∧ Holds w' gf G fs ∧ w.grownBy w' (some gf) := by
  obtain ⟨h1, ⟨A, c, vs, h2, h3, h4⟩, h5⟩ := h
  exact ⟨h1, ⟨A, _, c, h2, rfl, vs, own_base h3 (Nat.zero_le _), h4⟩, h5⟩
theorem own_rebase {w w2 : World} {base base' : Nat} {e e2 : TypeId} {s s2 n n2 c c2 : Nat} {A : Option Addr} {xs ys : List Value} (h : w.ownsRow base e s (.slice A n c) n xs) (h2 : w2.ownsRow base' e2 s2 (.slice A n2 c2) n2 ys) : w.ownsRow base' e s (.slice A n c) n xs := by
  refine ⟨h.1, h.2.imp id ?_⟩
  rintro ⟨g, cap, cur, hv, hk, hh, hr⟩
  injection hv with h1 _ h3
  subst h1
  subst h3
  obtain ⟨_, _, _, _, hb⟩ := own_block h2
  exact ⟨g, c, cur, rfl, hb, hh, hr⟩
set_option maxRecDepth 100000 in
set_option maxHeartbeats 8000000 in
theorem tidy_any (w : World) (gf : Nat) (G : Nat → Prop) (fs : List Pa) (h : Holds w gf G fs) (hn : fs.length ≤ 1000000000) :
    Calls Try.prog 26 #[.pointer (some ⟨gf, 0, none⟩)] w (Done gf G (Exn.tidy fs) w) := by
  obtain ⟨A, n, cap, hW, hF⟩ := h
  have hl := hF.1
  obtain ⟨_, vs, h1, h2⟩ := hF
  have q0 := hW.cell 0
  simp at q0
  have W := Lib.hid hW
  have H1 := Lib.hid h1
  have H2 := Lib.hid h2
  have HL := Lib.hid hl
  have eg := empty_enters
  have HC := Lib.hid (pclone_any w A n cap vs w.heap.size (Nat.le_refl _) (Rd.of_own h1) h2.one (by omega))
  have hgf := hW.lt
  clear hW h1 h2 hl
  go_enter Try.func26, Try.ntmps26
  go_wp2_with fail
  refine HC.out.mono ?_
  clear HC
  rintro en w2 ⟨D, c2, rfl, ho2, hb2⟩
  have HD := Lib.hid (pdelete_any w2 D n c2 fs G ⟨HL.out, vs, own_base ho2 (Nat.zero_le _), H2.out.ext hb2⟩ (by have := HL.out; omega))
  have HO2 := Lib.hid ho2
  have HB2 := Lib.hid hb2
  clear ho2 hb2
  go_wp2_with fail
  refine HD.out.mono ?_
  clear HD
  rintro en w3 ⟨rfl, hf3, hg3, _⟩
  have hb3 : Below w.heap.size w w3 := HB2.out.grown hg3 HB2.out.size (fun k hk => (HO2.out.lt k hk).1)
  have HF3 := Lib.hid hf3
  have W3 := W.out.below hb3 hgf
  have q3 := W3.cell 0
  have f3 := W3.frozen 0
  simp at q3
  have HW3 := Lib.hid W3
  have HB3 := Lib.hid hb3
  clear hf3 hg3 W3 hb3 HB2
  go_wp2_with fail
  go_end0
  have hgw : w3.grownBy (w3.setCell ⟨gf, 0, none⟩ (.slice D (Exn.tidy fs).length c2)) (some gf) := ⟨rfl, rfl, rfl, by simp [World.setCell], fun k hk hne => Below.heap_setCell _ _ _ _ (fun e => hne (by rw [e]))⟩
  obtain ⟨_, vs3, hf1, hf2⟩ := HF3.out.far HW3.out hgw part_ne.2.2.2.1 part_ne.2.2.1
  refine ⟨rfl, ⟨D, c2, vs3, HW3.out.put_ 0 _, own_rebase hf1 HO2.out, hf2⟩, ?_⟩
  exact World.grownBy.trans ⟨HB3.out.os, HB3.out.tape, HB3.out.output, HB3.out.size, fun k hk _ => HB3.out.block k hk⟩ hgw
end Go.Proofs.Ytankhjchdnfpfaa
