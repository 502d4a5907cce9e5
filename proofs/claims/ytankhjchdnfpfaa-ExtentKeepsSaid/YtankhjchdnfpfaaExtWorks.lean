/-
  Files in parts: the chapter's examples.
-/
import Derived.Test.YtankhjchdnfpfaaExtHold
import Derived.Test.YtankhjchdnfpfaaGrowSep
import Derived.Lib.SlBytesConst
namespace Go.Proofs.Ytankhjchdnfpfaa
open Go.RowKit
/-- A new variable. -/
def GSpec.box (base : Nat) (E : TypeId) (cs : Array Value) : GSpec :=
  ⟨Nat, 0, fun g => .pointer (some ⟨g, 0, none⟩), fun _ _ g w => base ≤ g ∧ Whole w g E cs, fun _ _ _ _ => rfl, fun _ _ _ _ _ h k => ⟨h.1, h.2.below k h.2.lt⟩⟩
attribute [local go_sem] match_undef Oper.growAt Oper.growUpon GSpec.fix GSpec.row GSpec.wh GSpec.own GSpec.box
attribute [local irreducible] wpList
def F1 : List Pa := [([97, 98], true), ([99, 100], false)]
def F2 : List Pa := [([97, 98], true), ([99, 100], false), ([101, 102], false)]
def FA : List Pa := [([97, 98], true), ([0, 0], true), ([101, 102], true)]
def FB : List Pa := [([97, 98], true), ([99, 100], true)]
def FZ : List Pa := [([97, 98], true), ([99, 100], true), ([101, 102], true)]
theorem fx1 : Exn.app F0 [99, 100] = F1 := by decide
theorem fx2 : Exn.app F1 [101, 102] = F2 := by decide
theorem fx3 : Exn.fail F2 [false, true] = FA := by decide
theorem fx4 : Exn.fail F2 [true] = FB := by decide
theorem fx5 : Exn.fail F2 [] = F0 := by decide
theorem fx6 : Exn.sync F2 = FZ := by decide
theorem fx7 : Exn.fail FZ [] = FZ := by decide
theorem fy1 : Exn.bytes F2 = [97, 98, 99, 100, 101, 102] := by decide
theorem fy2 : Exn.bytes FA = [97, 98, 0, 0, 101, 102] := by decide
theorem fy3 : Exn.bytes FB = [97, 98, 99, 100] := by decide
theorem fy4 : Exn.bytes F0 = [97, 98] := by decide
theorem fy5 : Exn.bytes FZ = [97, 98, 99, 100, 101, 102] := by decide
theorem fz1 : Exn.vol F2 = 2 := by decide
theorem fz2 : Exn.vol FA = 0 := by decide
theorem bytes_call (w : World) (A : Option Addr) (n c : Nat) (fs : List Pa) (bs : List UInt8) (L : Nat) (h : File w AnyG 52 5 A n c fs) (hn : n ≤ 1000000) (hb : Exn.bytes fs = bs) (hl : bs.length = L) (hL : L ≤ 1000000) :
    Calls Try.prog 21 #[.agg #[.slice A n c]] w (Fresh w.heap.size 5 1 L (byts bs) w) := by
  have h1 := ebytes_any w A n c fs w.heap.size (Nat.le_refl _) h.rd hn (by rw [hb, hl]; omega)
  rw [hb, hl] at h1
  exact h1
theorem vol_call (w : World) (A : Option Addr) (n c : Nat) (fs : List Pa) (v : Nat) (h : File w AnyG 52 5 A n c fs) (hn : n ≤ 1000000) (hv : Exn.vol fs = v) :
    Calls Try.prog 22 #[.agg #[.slice A n c]] w (fun en w' => en = .returned (.int .i64 (v : Nat)) ∧ Below w.heap.size w w') := by
  have h1 := evol_any w A n c fs w.heap.size (Nat.le_refl _) h.rd hn
  rw [hv] at h1
  exact h1
theorem laid4 {w wx : World} {g4 g5 g6 g7 : Nat} {A4 A5 A6 A7 : Option Addr} {m4 k4 m5 k5 m6 k6 m7 k7 : Nat} (hw4 : Whole wx g4 30 #[.slice none 0 0]) (hw5 : Whole wx g5 30 #[.slice none 0 0]) (hw6 : Whole wx g6 30 #[.slice none 0 0]) (hw7 : Whole wx g7 30 #[.slice none 0 0])
    (n45 : g4 ≠ g5) (n46 : g4 ≠ g6) (n47 : g4 ≠ g7) (n56 : g5 ≠ g6) (n57 : g5 ≠ g7) (n67 : g6 ≠ g7) (b4 : w.heap.size ≤ g4) (b5 : w.heap.size ≤ g5) (b6 : w.heap.size ≤ g6) (b7 : w.heap.size ≤ g7) (hb : Below w.heap.size w wx)
    (h4 : File wx AnyG 52 5 A4 m4 k4 F0) (h5 : File wx AnyG 52 5 A5 m5 k5 F0) (h6 : File wx AnyG 52 5 A6 m6 k6 F0) (h7 : File wx AnyG 52 5 A7 m7 k7 F0) {W : World}
    (hW : (((wx.setCell ⟨g4, 0, none⟩ (.slice A4 m4 k4)).setCell ⟨g5, 0, none⟩ (.slice A5 m5 k5)).setCell ⟨g6, 0, none⟩ (.slice A6 m6 k6)).setCell ⟨g7, 0, none⟩ (.slice A7 m7 k7) = W) :
    Holds W g4 AnyG F0 ∧ Holds W g5 AnyG F0 ∧ Holds W g6 AnyG F0 ∧ Holds W g7 AnyG F0 ∧ Below w.heap.size w W ∧ W.heap.size = wx.heap.size := by
  subst hW
  have e1 := grow_put (w := wx) (g := g4) (.slice A4 m4 k4)
  have e2 := grow_put (w := wx.setCell ⟨g4, 0, none⟩ (.slice A4 m4 k4)) (g := g5) (.slice A5 m5 k5)
  have e3 := grow_put (w := (wx.setCell ⟨g4, 0, none⟩ (.slice A4 m4 k4)).setCell ⟨g5, 0, none⟩ (.slice A5 m5 k5)) (g := g6) (.slice A6 m6 k6)
  have e4 := grow_put (w := ((wx.setCell ⟨g4, 0, none⟩ (.slice A4 m4 k4)).setCell ⟨g5, 0, none⟩ (.slice A5 m5 k5)).setCell ⟨g6, 0, none⟩ (.slice A6 m6 k6)) (g := g7) (.slice A7 m7 k7)
  have x5 := hw5.far_of e1 n45
  have x6 := (hw6.far_of e1 n46).far_of e2 n56
  have x7 := ((hw7.far_of e1 n47).far_of e2 n57).far_of e3 n67
  have far4 : ∀ A n c, File wx AnyG 52 5 A n c F0 → File ((((wx.setCell ⟨g4, 0, none⟩ (.slice A4 m4 k4)).setCell ⟨g5, 0, none⟩ (.slice A5 m5 k5)).setCell ⟨g6, 0, none⟩ (.slice A6 m6 k6)).setCell ⟨g7, 0, none⟩ (.slice A7 m7 k7)) AnyG 52 5 A n c F0 := fun A n c h =>
    (((h.far hw4 e1 part_ne.2.2.2.1 part_ne.2.2.1).far x5 e2 part_ne.2.2.2.1 part_ne.2.2.1).far x6 e3 part_ne.2.2.2.1 part_ne.2.2.1).far x7 e4 part_ne.2.2.2.1 part_ne.2.2.1
  refine ⟨⟨A4, m4, k4, (((hw4.put_ 0 (.slice A4 m4 k4)).far_of e2 (Ne.symm n45)).far_of e3 (Ne.symm n46)).far_of e4 (Ne.symm n47), far4 _ _ _ h4⟩, ⟨A5, m5, k5, ((x5.put_ 0 (.slice A5 m5 k5)).far_of e3 (Ne.symm n56)).far_of e4 (Ne.symm n57), far4 _ _ _ h5⟩,
    ⟨A6, m6, k6, (x6.put_ 0 (.slice A6 m6 k6)).far_of e4 (Ne.symm n67), far4 _ _ _ h6⟩, ⟨A7, m7, k7, x7.put_ 0 (.slice A7 m7 k7), far4 _ _ _ h7⟩, ?_, by simp [World.setCell]⟩
  exact (((hb.setCell (p := ⟨g4, 0, none⟩) b4 _).setCell (p := ⟨g5, 0, none⟩) b5 _).setCell (p := ⟨g6, 0, none⟩) b6 _).setCell (p := ⟨g7, 0, none⟩) b7 _
set_option maxRecDepth 100000 in
set_option maxHeartbeats 8000000 in
theorem works_any (w : World) : Calls Try.prog 7 #[] w fun en w' => en = .returned (.bool true) ∧ Below w.heap.size w w' := by
  have kc := fun (w : World) (C : Array Value) (n c : Nat) => Lib.run_convert_bytes_const (P := Try.prog) w 26 5 C n c Try.underlying26 Try.underlying5
  have HOF := Lib.hid (of_ab w)
  go_enter Try.func7, Try.ntmps7
  go_wp2_with fail
  refine HOF.out.mono ?_
  clear HOF
  rintro en w0 ⟨A0, n0, c0, rfl, hf0, hb0⟩
  have hb1 := hb0.trans ((below1 w0 (.cells #[.slice A0 n0 c0] 30)).mono hb0.size)
  have hlaid := Holds.laid hf0
  have hz : (w0.alloc (.cells #[.slice A0 n0 c0] 30)).heap.size = w0.heap.size + 1 := by simp
  have HX := Lib.hid (And.intro hlaid (And.intro hb1 (And.intro hb0.size hz)))
  clear hf0 hlaid hb1 hb0 hz
  go_wp2_with fail
  obtain ⟨hlaid, hb1, hbs, hz⟩ := HX.out
  clear HX
  rw [← hz]
  clear hz
  generalize w0.alloc (.cells #[.slice A0 n0 c0] 30) = wa at hlaid hb1 ⊢
  obtain ⟨g1, hg1⟩ : ∃ g, w0.heap.size = g := ⟨_, rfl⟩
  have HLg1 := Lib.hid (show w.heap.size ≤ g1 by rw [← hg1]; exact hbs)
  rw [hg1] at hlaid ⊢
  have Hg1 := Lib.hid hlaid
  have HB := Lib.hid hb1
  clear hlaid hb1 hbs hg1
  have HC := Lib.hid (app_two wa g1 F0 Hg1.out (by decide) [99, 100] rfl #[.int .u8 99, .int .u8 100] rfl)
  rw [kc]
  go_simp
  go_wp2_with fail
  refine HC.out.mono ?_
  clear HC
  rintro en w1 hdone
  obtain ⟨rfl, hme, hgr⟩ := hdone.holds
  rw [fx1] at hme
  have hbl := below1 wa (.cells #[.int .u8 99, .int .u8 100] 5 (2, 3))
  have hbn := (HB.out.trans (hbl.mono HB.out.size)).grown hgr ((HB.out.trans (hbl.mono HB.out.size)).size) (fun k hk => by injection hk with hk; have := HLg1.out; omega)
  replace HB := Lib.hid hbn
  replace Hg1 := Lib.hid hme
  clear hme hgr hbn hdone hbl
  have HC := Lib.hid (app_two w1 g1 F1 Hg1.out (by decide) [101, 102] rfl #[.int .u8 101, .int .u8 102] rfl)
  go_wp2_with fail
  refine HC.out.mono ?_
  clear HC
  rintro en w2 hdone
  obtain ⟨rfl, hme, hgr⟩ := hdone.holds
  rw [fx2] at hme
  have hbl := below1 w1 (.cells #[.int .u8 101, .int .u8 102] 5 (2, 3))
  have hbn := (HB.out.trans (hbl.mono HB.out.size)).grown hgr ((HB.out.trans (hbl.mono HB.out.size)).size) (fun k hk => by injection hk with hk; have := HLg1.out; omega)
  replace HB := Lib.hid hbn
  replace Hg1 := Lib.hid hme
  clear hme hgr hbn hdone hbl
  obtain ⟨Ag1, ng1, cg1, hwg1, hfg1⟩ := Hg1.out
  have hng1 : ng1 ≤ 1000000 := by rw [← hfg1.1]; decide
  have qg1 := hwg1.cell 0
  simp at qg1
  have HC := Lib.hid (bytes_call w2 Ag1 ng1 cg1 F2 [97, 98, 99, 100, 101, 102] 6 hfg1 hng1 fy1 rfl (by omega))
  clear hwg1 hfg1
  go_wp2_with fail
  refine HC.out.mono ?_
  clear HC qg1
  rintro en w3 ⟨Dg1, dg1, rfl, hog1, hbg1⟩
  replace Hg1 := Lib.hid (Hg1.out.ext hbg1)
  replace HB := Lib.hid (HB.out.trans (hbg1.mono HB.out.size))
  have hstg1 : (convert 26 9 (.slice Dg1 6 dg1)).run Try.prog w3 = .ok (.string { data := #[97, 98, 99, 100, 101, 102] }) w3 := run_string_of (P := Try.prog) (w := w3) (d := 9) Try.underlying26 Try.underlying5 Try.underlying9 (Rd.of_own hog1) dg1
  clear hog1 hbg1
  obtain ⟨Ag1', ng1', cg1', hwg1, hfg1⟩ := Hg1.out
  have hng1' : ng1' ≤ 1000000 := by rw [← hfg1.1]; decide
  have qg1 := hwg1.cell 0
  simp at qg1
  have HC := Lib.hid (vol_call w3 Ag1' ng1' cg1' F2 2 hfg1 hng1' fz1)
  clear hwg1 hfg1
  go_wp2_with fail
  refine HC.out.mono ?_
  clear HC qg1
  rintro en w4 ⟨rfl, hbg1⟩
  replace Hg1 := Lib.hid (Hg1.out.ext hbg1)
  replace HB := Lib.hid (HB.out.trans (hbg1.mono HB.out.size))
  clear hbg1 Hg1 HLg1
  have HC := Lib.hid (of_none w4)
  go_wp2_with fail
  refine HC.out.mono ?_
  clear HC
  rintro en w5 ⟨Aa, na, ca, rfl, hbo⟩
  replace HB := Lib.hid (HB.out.trans (hbo.mono HB.out.size))
  clear hbo
  have HC := Lib.hid (of_none w5)
  go_wp2_with fail
  refine HC.out.mono ?_
  clear HC
  rintro en w6 ⟨Ab, nb, cb, rfl, hbo⟩
  replace HB := Lib.hid (HB.out.trans (hbo.mono HB.out.size))
  clear hbo
  have HC := Lib.hid (of_none w6)
  go_wp2_with fail
  refine HC.out.mono ?_
  clear HC
  rintro en w7 ⟨Ac, nc, cc, rfl, hbo⟩
  replace HB := Lib.hid (HB.out.trans (hbo.mono HB.out.size))
  clear hbo
  have HC := Lib.hid (of_none w7)
  go_wp2_with fail
  refine HC.out.mono ?_
  clear HC
  rintro en w8 ⟨Ad, nd, cd, rfl, hbo⟩
  replace HB := Lib.hid (HB.out.trans (hbo.mono HB.out.size))
  clear hbo
  have HR0 := Lib.hid (show Row4 (w8.alloc (.cells #[.slice Aa na ca, .slice Ab nb cb, .slice Ac nc cc, .slice Ad nd cd] 30)) w8.heap.size 0 from ⟨[(Aa, na, ca), (Ab, nb, cb), (Ac, nc, cc), (Ad, nd, cd)], rfl, Whole.new _ _ _, fun i v hi => absurd hi (by omega)⟩)
  have HB1 := Lib.hid (HB.out.alloc HB.out.size (.cells #[.slice Aa na ca, .slice Ab nb cb, .slice Ac nc cc, .slice Ad nd cd] 30))
  have HGR := Lib.hid HB.out.size
  clear HB
  go_wp2_with fail
  obtain ⟨gr, hgr⟩ : ∃ g, w8.heap.size = g := ⟨_, rfl⟩
  rw [hgr] at HR0 HGR ⊢
  clear hgr
  go_loopw [3] (fun i wr => ∃ j : Nat, j ≤ 4 ∧ i = .int .i64 j ∧ Hid (Row4 wr gr j) ∧ Below w.heap.size w wr) (fun i _ => 4 - (intOf i).toNat)
  case atStart => exact ⟨0, by omega, rfl, HR0, HB1.out⟩
  case round =>
    obtain ⟨j, hj, rfl, HR, hb⟩ := hrel
    by_cases hlt : j < 4
    · have hd : decide ((j : Int) < 4) = true := by simp; omega
      have d1 : (0 : Int) ≤ (j : Int) := by omega
      have d2 : (j : Int) < 4 := by omega
      have HC := Lib.hid (of_ab wr)
      go_wp2_with fail
      refine HC.out.mono ?_
      clear HC
      rintro en wy ⟨A, n, c, rfl, hf, hb2⟩
      have HR2 := HR.out.ext hb2
      obtain ⟨_, ⟨A', n', c', hq, _⟩, hfz⟩ := HR2.cells hlt
      have HRN := Lib.hid (HR2.put hf hlt)
      have hb3 := (hb.trans (hb2.mono hb.size)).setCell (p := ⟨gr, j, none⟩) HGR.out (.slice A n c)
      clear HR2 hf hb2 hb HR
      go_wp2_with fail
      go_roundw
      case rel => exact ⟨j + 1, by omega, by go_num, HRN, hb3⟩
      case measure => simp [intOf] <;> omega
    · obtain rfl : j = 4 := by omega
      obtain ⟨hgl, ⟨A4, m4, k4, hq0, hf0⟩, _⟩ := HR.out.cells (show 0 < 4 by omega)
      obtain ⟨_, ⟨A5, m5, k5, hq1, hf1⟩, _⟩ := HR.out.cells (show 1 < 4 by omega)
      obtain ⟨_, ⟨A6, m6, k6, hq2, hf2⟩, _⟩ := HR.out.cells (show 2 < 4 by omega)
      obtain ⟨_, ⟨A7, m7, k7, hq3, hf3⟩, _⟩ := HR.out.cells (show 3 < 4 by omega)
      have HF4 := Lib.hid (hf0 (by omega))
      have HF5 := Lib.hid (hf1 (by omega))
      have HF6 := Lib.hid (hf2 (by omega))
      have HF7 := Lib.hid (hf3 (by omega))
      have Q0 := Lib.hid hq0
      have Q1 := Lib.hid hq1
      have Q2 := Lib.hid hq2
      have Q3 := Lib.hid hq3
      have Q0L := Lib.hid hgl
      have Q1L := Lib.hid hgl
      have Q2L := Lib.hid hgl
      have Q3L := Lib.hid hgl
      have HSZ := Lib.hid hb.size
      clear hf0 hf1 hf2 hf3 hq0 hq1 hq2 hq3 hgl HR HR0 HB1
      go_wp2_with fail
      refine wp_region_sep 16 [12, 13, 14, 15] (fun k' => List.lookup k' [(2, .fix (.agg #[.slice A4 m4 k4])), (5, .fix (.agg #[.slice A5 m5 k5])), (8, .fix (.agg #[.slice A6 m6 k6])), (11, .fix (.agg #[.slice A7 m7 k7])), (12, .box w.heap.size 30 #[.slice none 0 0]), (13, .box w.heap.size 30 #[.slice none 0 0]), (14, .box w.heap.size 30 #[.slice none 0 0]), (15, .box w.heap.size 30 #[.slice none 0 0])]) (by as_aux_lemma => kernel_rfl) (by as_aux_lemma => kernel_rfl) (by as_aux_lemma => kernel_rfl) (by as_aux_lemma => kernel_rfl) ?_
      simp only [List.take_succ_cons, List.take_zero]
      repeat (refine wpGrow_pure rfl (fun K hK => ?_); go_simp; refine hK.out _ ?_; clear hK K)
      refine wpGrow_eff _ rfl (fun wx he hcl => ?_) (fun _ K hK => ?_) rfl
      · clear hcl
        have hq := (he.cell (p := ⟨gr, 0, none⟩) Q0L.out).trans Q0.out
        go_simp
        exact Below.refl _ _
      go_simp
      refine hK.out _ ?_
      clear hK K
      repeat (refine wpGrow_pure rfl (fun K hK => ?_); go_simp; refine hK.out _ ?_; clear hK K)
      refine wpGrow_eff _ rfl (fun wx he hcl => ?_) (fun _ K hK => ?_) rfl
      · clear hcl
        have hq := (he.cell (p := ⟨gr, 1, none⟩) Q1L.out).trans Q1.out
        go_simp
        exact Below.refl _ _
      go_simp
      refine hK.out _ ?_
      clear hK K
      repeat (refine wpGrow_pure rfl (fun K hK => ?_); go_simp; refine hK.out _ ?_; clear hK K)
      refine wpGrow_eff _ rfl (fun wx he hcl => ?_) (fun _ K hK => ?_) rfl
      · clear hcl
        have hq := (he.cell (p := ⟨gr, 2, none⟩) Q2L.out).trans Q2.out
        go_simp
        exact Below.refl _ _
      go_simp
      refine hK.out _ ?_
      clear hK K
      repeat (refine wpGrow_pure rfl (fun K hK => ?_); go_simp; refine hK.out _ ?_; clear hK K)
      refine wpGrow_eff _ rfl (fun wx he hcl => ?_) (fun _ K hK => ?_) rfl
      · clear hcl
        have hq := (he.cell (p := ⟨gr, 3, none⟩) Q3L.out).trans Q3.out
        go_simp
        exact Below.refl _ _
      go_simp
      refine hK.out _ ?_
      clear hK K
      repeat (refine wpGrow_pure rfl (fun K hK => ?_); go_simp; refine hK.out _ ?_; clear hK K)
      refine wpGrow_eff _ rfl (fun wx he hcl => ?_) (fun (g4 : Nat) K hK => ?_) rfl
      · clear hcl
        have hez := Nat.le_trans HSZ.out he.size
        go_simp
        exact ⟨Whole.new _ _ _, (Below.refl _ _).alloc (Nat.le_refl _) _⟩
      go_simp
      refine hK.out _ ?_
      clear hK K
      repeat (refine wpGrow_pure rfl (fun K hK => ?_); go_simp; refine hK.out _ ?_; clear hK K)
      refine wpGrow_eff _ rfl (fun wx he hcl => ?_) (fun (g5 : Nat) K hK => ?_) rfl
      · clear hcl
        have hez := Nat.le_trans HSZ.out he.size
        go_simp
        exact ⟨Whole.new _ _ _, (Below.refl _ _).alloc (Nat.le_refl _) _⟩
      go_simp
      refine hK.out _ ?_
      clear hK K
      repeat (refine wpGrow_pure rfl (fun K hK => ?_); go_simp; refine hK.out _ ?_; clear hK K)
      refine wpGrow_eff _ rfl (fun wx he hcl => ?_) (fun (g6 : Nat) K hK => ?_) rfl
      · clear hcl
        have hez := Nat.le_trans HSZ.out he.size
        go_simp
        exact ⟨Whole.new _ _ _, (Below.refl _ _).alloc (Nat.le_refl _) _⟩
      go_simp
      refine hK.out _ ?_
      clear hK K
      repeat (refine wpGrow_pure rfl (fun K hK => ?_); go_simp; refine hK.out _ ?_; clear hK K)
      refine wpGrow_eff _ rfl (fun wx he hcl => ?_) (fun (g7 : Nat) K hK => ?_) rfl
      · clear hcl
        have hez := Nat.le_trans HSZ.out he.size
        go_simp
        exact ⟨Whole.new _ _ _, (Below.refl _ _).alloc (Nat.le_refl _) _⟩
      go_simp
      refine hK.out _ ?_
      clear hK K
      repeat (refine wpGrow_pure rfl (fun K hK => ?_); go_simp; refine hK.out _ ?_; clear hK K)
      refine wpGrow_nil fun wx he hfin => ?_
      intro hsep
      have HSEP := Lib.hid (show g4 ≠ g5 ∧ g4 ≠ g6 ∧ g4 ≠ g7 ∧ g5 ≠ g6 ∧ g5 ≠ g7 ∧ g6 ≠ g7 from
        ⟨fun e => hsep 12 (by decide) 13 (by decide) (by decide) _ _ 4 5 rfl rfl rfl rfl g4 rfl (by subst e; rfl), fun e => hsep 12 (by decide) 14 (by decide) (by decide) _ _ 4 6 rfl rfl rfl rfl g4 rfl (by subst e; rfl), fun e => hsep 12 (by decide) 15 (by decide) (by decide) _ _ 4 7 rfl rfl rfl rfl g4 rfl (by subst e; rfl),
          fun e => hsep 13 (by decide) 14 (by decide) (by decide) _ _ 5 6 rfl rfl rfl rfl g5 rfl (by subst e; rfl), fun e => hsep 13 (by decide) 15 (by decide) (by decide) _ _ 5 7 rfl rfl rfl rfl g5 rfl (by subst e; rfl), fun e => hsep 14 (by decide) 15 (by decide) (by decide) _ _ 6 7 rfl rfl rfl rfl g6 rfl (by subst e; rfl)⟩)
      clear hsep
      have hw4 : w.heap.size ≤ g4 ∧ Whole wx g4 30 #[.slice none 0 0] := hfin.out 12
      have hw5 : w.heap.size ≤ g5 ∧ Whole wx g5 30 #[.slice none 0 0] := hfin.out 13
      have hw6 : w.heap.size ≤ g6 ∧ Whole wx g6 30 #[.slice none 0 0] := hfin.out 14
      have hw7 : w.heap.size ≤ g7 ∧ Whole wx g7 30 #[.slice none 0 0] := hfin.out 15
      clear hfin
      obtain ⟨n45, n46, n47, n56, n57, n67⟩ := HSEP.out
      clear HSEP
      obtain ⟨W, hW⟩ : ∃ W, (((wx.setCell ⟨g4, 0, none⟩ (.slice A4 m4 k4)).setCell ⟨g5, 0, none⟩ (.slice A5 m5 k5)).setCell ⟨g6, 0, none⟩ (.slice A6 m6 k6)).setCell ⟨g7, 0, none⟩ (.slice A7 m7 k7) = W := ⟨_, rfl⟩
      have HLD := Lib.hid (laid4 hw4.2 hw5.2 hw6.2 hw7.2 n45 n46 n47 n56 n57 n67 hw4.1 hw5.1 hw6.1 hw7.1 (hb.trans (he.mono hb.size)) (HF4.out.ext he) (HF5.out.ext he) (HF6.out.ext he) (HF7.out.ext he) hW)
      have HWW := Lib.hid hW
      have HLg4 := Lib.hid hw4.1
      have HLg5 := Lib.hid hw5.1
      have HLg6 := Lib.hid hw6.1
      have HLg7 := Lib.hid hw7.1
      have q4 := hw4.2.cell 0
      have q5 := hw5.2.cell 0
      have q6 := hw6.2.cell 0
      have q7 := hw7.2.cell 0
      have f4 := hw4.2.frozen 0
      have f5 := hw5.2.frozen 0
      have f6 := hw6.2.frozen 0
      have f7 := hw7.2.frozen 0
      simp at q4 q5 q6 q7
      have n54 := Ne.symm n45
      have n64 := Ne.symm n46
      have n74 := Ne.symm n47
      have n65 := Ne.symm n56
      have n75 := Ne.symm n57
      have n76 := Ne.symm n67
      clear hW hw4 hw5 hw6 hw7 he hb HF4 HF5 HF6 HF7 Q0 Q1 Q2 Q3 Q0L Q1L Q2L Q3L HSZ
      simp only [List.drop_succ_cons, List.drop_zero]
      go_wp2_with fail
      clear q4 q5 q6 q7 f4 f5 f6 f7
      rw [HWW.out]
      obtain ⟨h4, h5, h6, h7, hbW, hsW⟩ := HLD.out
      rw [← hsW]
      clear HLD HWW hsW
      have Hg4 := Lib.hid h4
      have Hg5 := Lib.hid h5
      have Hg6 := Lib.hid h6
      have Hg7 := Lib.hid h7
      have HB := Lib.hid hbW
      clear h4 h5 h6 h7 hbW
      have n_g4_g5 := n45
      have n_g4_g6 := n46
      have n_g4_g7 := n47
      have n_g5_g4 := n54
      have n_g5_g6 := n56
      have n_g5_g7 := n57
      have n_g6_g4 := n64
      have n_g6_g5 := n65
      have n_g6_g7 := n67
      have n_g7_g4 := n74
      have n_g7_g5 := n75
      have n_g7_g6 := n76
      clear n45 n46 n47 n54 n56 n57 n64 n65 n67 n74 n75 n76
      have HC := Lib.hid (app_two W g4 F0 Hg4.out (by decide) [99, 100] rfl #[.int .u8 99, .int .u8 100] rfl)
      rw [kc]
      go_simp
      go_wp2_with fail
      refine HC.out.mono ?_
      clear HC
      rintro en w9 hdone
      obtain ⟨rfl, hme, hgr⟩ := hdone.holds
      rw [fx1] at hme
      have hbl := below1 W (.cells #[.int .u8 99, .int .u8 100] 5 (2, 3))
      have HNg5 := Lib.hid (((Hg5.out.ext hbl)).aside (Hg4.out.ext hbl) hgr n_g4_g5)
      have HNg6 := Lib.hid (((Hg6.out.ext hbl)).aside (Hg4.out.ext hbl) hgr n_g4_g6)
      have HNg7 := Lib.hid (((Hg7.out.ext hbl)).aside (Hg4.out.ext hbl) hgr n_g4_g7)
      have hbn := (HB.out.trans (hbl.mono HB.out.size)).grown hgr ((HB.out.trans (hbl.mono HB.out.size)).size) (fun k hk => by injection hk with hk; have := HLg4.out; omega)
      replace HB := Lib.hid hbn
      replace Hg5 := HNg5
      replace Hg6 := HNg6
      replace Hg7 := HNg7
      replace Hg4 := Lib.hid hme
      clear hme hgr hbn hdone hbl HNg5 HNg6 HNg7
      have HC := Lib.hid (app_two w9 g4 F1 Hg4.out (by decide) [101, 102] rfl #[.int .u8 101, .int .u8 102] rfl)
      go_wp2_with fail
      refine HC.out.mono ?_
      clear HC
      rintro en w10 hdone
      obtain ⟨rfl, hme, hgr⟩ := hdone.holds
      rw [fx2] at hme
      have hbl := below1 w9 (.cells #[.int .u8 101, .int .u8 102] 5 (2, 3))
      have HNg5 := Lib.hid (((Hg5.out.ext hbl)).aside (Hg4.out.ext hbl) hgr n_g4_g5)
      have HNg6 := Lib.hid (((Hg6.out.ext hbl)).aside (Hg4.out.ext hbl) hgr n_g4_g6)
      have HNg7 := Lib.hid (((Hg7.out.ext hbl)).aside (Hg4.out.ext hbl) hgr n_g4_g7)
      have hbn := (HB.out.trans (hbl.mono HB.out.size)).grown hgr ((HB.out.trans (hbl.mono HB.out.size)).size) (fun k hk => by injection hk with hk; have := HLg4.out; omega)
      replace HB := Lib.hid hbn
      replace Hg5 := HNg5
      replace Hg6 := HNg6
      replace Hg7 := HNg7
      replace Hg4 := Lib.hid hme
      clear hme hgr hbn hdone hbl HNg5 HNg6 HNg7
      have HC := Lib.hid (fail_new w10 g4 F2 Hg4.out (by decide) (by decide) [false, true] 2 rfl #[.bool false, .bool true] rfl)
      go_wp2_with fail
      refine HC.out.mono ?_
      clear HC
      rintro en w11 hdone
      obtain ⟨rfl, hme, hgr⟩ := hdone.holds
      rw [fx3] at hme
      have hbl := below1 w10 (.cells #[.bool false, .bool true] 4)
      have HNg5 := Lib.hid (((Hg5.out.ext hbl)).aside (Hg4.out.ext hbl) hgr n_g4_g5)
      have HNg6 := Lib.hid (((Hg6.out.ext hbl)).aside (Hg4.out.ext hbl) hgr n_g4_g6)
      have HNg7 := Lib.hid (((Hg7.out.ext hbl)).aside (Hg4.out.ext hbl) hgr n_g4_g7)
      have hbn := (HB.out.trans (hbl.mono HB.out.size)).grown hgr ((HB.out.trans (hbl.mono HB.out.size)).size) (fun k hk => by injection hk with hk; have := HLg4.out; omega)
      replace HB := Lib.hid hbn
      replace Hg5 := HNg5
      replace Hg6 := HNg6
      replace Hg7 := HNg7
      replace Hg4 := Lib.hid hme
      clear hme hgr hbn hdone hbl HNg5 HNg6 HNg7
      have HC := Lib.hid (app_two w11 g5 F0 Hg5.out (by decide) [99, 100] rfl #[.int .u8 99, .int .u8 100] rfl)
      go_wp2_with fail
      refine HC.out.mono ?_
      clear HC
      rintro en w12 hdone
      obtain ⟨rfl, hme, hgr⟩ := hdone.holds
      rw [fx1] at hme
      have hbl := below1 w11 (.cells #[.int .u8 99, .int .u8 100] 5 (2, 3))
      have HNg4 := Lib.hid (((Hg4.out.ext hbl)).aside (Hg5.out.ext hbl) hgr n_g5_g4)
      have HNg6 := Lib.hid (((Hg6.out.ext hbl)).aside (Hg5.out.ext hbl) hgr n_g5_g6)
      have HNg7 := Lib.hid (((Hg7.out.ext hbl)).aside (Hg5.out.ext hbl) hgr n_g5_g7)
      have hbn := (HB.out.trans (hbl.mono HB.out.size)).grown hgr ((HB.out.trans (hbl.mono HB.out.size)).size) (fun k hk => by injection hk with hk; have := HLg5.out; omega)
      replace HB := Lib.hid hbn
      replace Hg4 := HNg4
      replace Hg6 := HNg6
      replace Hg7 := HNg7
      replace Hg5 := Lib.hid hme
      clear hme hgr hbn hdone hbl HNg4 HNg6 HNg7
      have HC := Lib.hid (app_two w12 g5 F1 Hg5.out (by decide) [101, 102] rfl #[.int .u8 101, .int .u8 102] rfl)
      go_wp2_with fail
      refine HC.out.mono ?_
      clear HC
      rintro en w13 hdone
      obtain ⟨rfl, hme, hgr⟩ := hdone.holds
      rw [fx2] at hme
      have hbl := below1 w12 (.cells #[.int .u8 101, .int .u8 102] 5 (2, 3))
      have HNg4 := Lib.hid (((Hg4.out.ext hbl)).aside (Hg5.out.ext hbl) hgr n_g5_g4)
      have HNg6 := Lib.hid (((Hg6.out.ext hbl)).aside (Hg5.out.ext hbl) hgr n_g5_g6)
      have HNg7 := Lib.hid (((Hg7.out.ext hbl)).aside (Hg5.out.ext hbl) hgr n_g5_g7)
      have hbn := (HB.out.trans (hbl.mono HB.out.size)).grown hgr ((HB.out.trans (hbl.mono HB.out.size)).size) (fun k hk => by injection hk with hk; have := HLg5.out; omega)
      replace HB := Lib.hid hbn
      replace Hg4 := HNg4
      replace Hg6 := HNg6
      replace Hg7 := HNg7
      replace Hg5 := Lib.hid hme
      clear hme hgr hbn hdone hbl HNg4 HNg6 HNg7
      have HC := Lib.hid (fail_new w13 g5 F2 Hg5.out (by decide) (by decide) [true] 1 rfl #[.bool true] rfl)
      go_wp2_with fail
      refine HC.out.mono ?_
      clear HC
      rintro en w14 hdone
      obtain ⟨rfl, hme, hgr⟩ := hdone.holds
      rw [fx4] at hme
      have hbl := below1 w13 (.cells #[.bool true] 4)
      have HNg4 := Lib.hid (((Hg4.out.ext hbl)).aside (Hg5.out.ext hbl) hgr n_g5_g4)
      have HNg6 := Lib.hid (((Hg6.out.ext hbl)).aside (Hg5.out.ext hbl) hgr n_g5_g6)
      have HNg7 := Lib.hid (((Hg7.out.ext hbl)).aside (Hg5.out.ext hbl) hgr n_g5_g7)
      have hbn := (HB.out.trans (hbl.mono HB.out.size)).grown hgr ((HB.out.trans (hbl.mono HB.out.size)).size) (fun k hk => by injection hk with hk; have := HLg5.out; omega)
      replace HB := Lib.hid hbn
      replace Hg4 := HNg4
      replace Hg6 := HNg6
      replace Hg7 := HNg7
      replace Hg5 := Lib.hid hme
      clear hme hgr hbn hdone hbl HNg4 HNg6 HNg7
      have HC := Lib.hid (app_two w14 g6 F0 Hg6.out (by decide) [99, 100] rfl #[.int .u8 99, .int .u8 100] rfl)
      go_wp2_with fail
      refine HC.out.mono ?_
      clear HC
      rintro en w15 hdone
      obtain ⟨rfl, hme, hgr⟩ := hdone.holds
      rw [fx1] at hme
      have hbl := below1 w14 (.cells #[.int .u8 99, .int .u8 100] 5 (2, 3))
      have HNg4 := Lib.hid (((Hg4.out.ext hbl)).aside (Hg6.out.ext hbl) hgr n_g6_g4)
      have HNg5 := Lib.hid (((Hg5.out.ext hbl)).aside (Hg6.out.ext hbl) hgr n_g6_g5)
      have HNg7 := Lib.hid (((Hg7.out.ext hbl)).aside (Hg6.out.ext hbl) hgr n_g6_g7)
      have hbn := (HB.out.trans (hbl.mono HB.out.size)).grown hgr ((HB.out.trans (hbl.mono HB.out.size)).size) (fun k hk => by injection hk with hk; have := HLg6.out; omega)
      replace HB := Lib.hid hbn
      replace Hg4 := HNg4
      replace Hg5 := HNg5
      replace Hg7 := HNg7
      replace Hg6 := Lib.hid hme
      clear hme hgr hbn hdone hbl HNg4 HNg5 HNg7
      have HC := Lib.hid (app_two w15 g6 F1 Hg6.out (by decide) [101, 102] rfl #[.int .u8 101, .int .u8 102] rfl)
      go_wp2_with fail
      refine HC.out.mono ?_
      clear HC
      rintro en w16 hdone
      obtain ⟨rfl, hme, hgr⟩ := hdone.holds
      rw [fx2] at hme
      have hbl := below1 w15 (.cells #[.int .u8 101, .int .u8 102] 5 (2, 3))
      have HNg4 := Lib.hid (((Hg4.out.ext hbl)).aside (Hg6.out.ext hbl) hgr n_g6_g4)
      have HNg5 := Lib.hid (((Hg5.out.ext hbl)).aside (Hg6.out.ext hbl) hgr n_g6_g5)
      have HNg7 := Lib.hid (((Hg7.out.ext hbl)).aside (Hg6.out.ext hbl) hgr n_g6_g7)
      have hbn := (HB.out.trans (hbl.mono HB.out.size)).grown hgr ((HB.out.trans (hbl.mono HB.out.size)).size) (fun k hk => by injection hk with hk; have := HLg6.out; omega)
      replace HB := Lib.hid hbn
      replace Hg4 := HNg4
      replace Hg5 := HNg5
      replace Hg7 := HNg7
      replace Hg6 := Lib.hid hme
      clear hme hgr hbn hdone hbl HNg4 HNg5 HNg7
      have HC := Lib.hid (fail_none w16 g6 F2 Hg6.out (by decide) (by decide))
      go_wp2_with fail
      refine HC.out.mono ?_
      clear HC
      rintro en w17 hdone
      obtain ⟨rfl, hme, hgr⟩ := hdone.holds
      rw [fx5] at hme
      have HNg4 := Lib.hid ((Hg4.out).aside Hg6.out hgr n_g6_g4)
      have HNg5 := Lib.hid ((Hg5.out).aside Hg6.out hgr n_g6_g5)
      have HNg7 := Lib.hid ((Hg7.out).aside Hg6.out hgr n_g6_g7)
      have hbn := HB.out.grown hgr (HB.out.size) (fun k hk => by injection hk with hk; have := HLg6.out; omega)
      replace HB := Lib.hid hbn
      replace Hg4 := HNg4
      replace Hg5 := HNg5
      replace Hg7 := HNg7
      replace Hg6 := Lib.hid hme
      clear hme hgr hbn hdone HNg4 HNg5 HNg7
      have HC := Lib.hid (app_two w17 g7 F0 Hg7.out (by decide) [99, 100] rfl #[.int .u8 99, .int .u8 100] rfl)
      go_wp2_with fail
      refine HC.out.mono ?_
      clear HC
      rintro en w18 hdone
      obtain ⟨rfl, hme, hgr⟩ := hdone.holds
      rw [fx1] at hme
      have hbl := below1 w17 (.cells #[.int .u8 99, .int .u8 100] 5 (2, 3))
      have HNg4 := Lib.hid (((Hg4.out.ext hbl)).aside (Hg7.out.ext hbl) hgr n_g7_g4)
      have HNg5 := Lib.hid (((Hg5.out.ext hbl)).aside (Hg7.out.ext hbl) hgr n_g7_g5)
      have HNg6 := Lib.hid (((Hg6.out.ext hbl)).aside (Hg7.out.ext hbl) hgr n_g7_g6)
      have hbn := (HB.out.trans (hbl.mono HB.out.size)).grown hgr ((HB.out.trans (hbl.mono HB.out.size)).size) (fun k hk => by injection hk with hk; have := HLg7.out; omega)
      replace HB := Lib.hid hbn
      replace Hg4 := HNg4
      replace Hg5 := HNg5
      replace Hg6 := HNg6
      replace Hg7 := Lib.hid hme
      clear hme hgr hbn hdone hbl HNg4 HNg5 HNg6
      have HC := Lib.hid (app_two w18 g7 F1 Hg7.out (by decide) [101, 102] rfl #[.int .u8 101, .int .u8 102] rfl)
      go_wp2_with fail
      refine HC.out.mono ?_
      clear HC
      rintro en w19 hdone
      obtain ⟨rfl, hme, hgr⟩ := hdone.holds
      rw [fx2] at hme
      have hbl := below1 w18 (.cells #[.int .u8 101, .int .u8 102] 5 (2, 3))
      have HNg4 := Lib.hid (((Hg4.out.ext hbl)).aside (Hg7.out.ext hbl) hgr n_g7_g4)
      have HNg5 := Lib.hid (((Hg5.out.ext hbl)).aside (Hg7.out.ext hbl) hgr n_g7_g5)
      have HNg6 := Lib.hid (((Hg6.out.ext hbl)).aside (Hg7.out.ext hbl) hgr n_g7_g6)
      have hbn := (HB.out.trans (hbl.mono HB.out.size)).grown hgr ((HB.out.trans (hbl.mono HB.out.size)).size) (fun k hk => by injection hk with hk; have := HLg7.out; omega)
      replace HB := Lib.hid hbn
      replace Hg4 := HNg4
      replace Hg5 := HNg5
      replace Hg6 := HNg6
      replace Hg7 := Lib.hid hme
      clear hme hgr hbn hdone hbl HNg4 HNg5 HNg6
      have HC := Lib.hid (sync_any w19 g7 AnyG F2 Hg7.out (by decide))
      go_wp2_with fail
      refine HC.out.mono ?_
      clear HC
      rintro en w20 hdone
      obtain ⟨rfl, hme, hgr⟩ := hdone.holds
      rw [fx6] at hme
      have HNg4 := Lib.hid ((Hg4.out).aside Hg7.out hgr n_g7_g4)
      have HNg5 := Lib.hid ((Hg5.out).aside Hg7.out hgr n_g7_g5)
      have HNg6 := Lib.hid ((Hg6.out).aside Hg7.out hgr n_g7_g6)
      have hbn := HB.out.grown hgr (HB.out.size) (fun k hk => by injection hk with hk; have := HLg7.out; omega)
      replace HB := Lib.hid hbn
      replace Hg4 := HNg4
      replace Hg5 := HNg5
      replace Hg6 := HNg6
      replace Hg7 := Lib.hid hme
      clear hme hgr hbn hdone HNg4 HNg5 HNg6
      have HC := Lib.hid (fail_none w20 g7 FZ Hg7.out (by decide) (by decide))
      go_wp2_with fail
      refine HC.out.mono ?_
      clear HC
      rintro en w21 hdone
      obtain ⟨rfl, hme, hgr⟩ := hdone.holds
      rw [fx7] at hme
      have HNg4 := Lib.hid ((Hg4.out).aside Hg7.out hgr n_g7_g4)
      have HNg5 := Lib.hid ((Hg5.out).aside Hg7.out hgr n_g7_g5)
      have HNg6 := Lib.hid ((Hg6.out).aside Hg7.out hgr n_g7_g6)
      have hbn := HB.out.grown hgr (HB.out.size) (fun k hk => by injection hk with hk; have := HLg7.out; omega)
      replace HB := Lib.hid hbn
      replace Hg4 := HNg4
      replace Hg5 := HNg5
      replace Hg6 := HNg6
      replace Hg7 := Lib.hid hme
      clear hme hgr hbn hdone HNg4 HNg5 HNg6
      obtain ⟨Ag4, ng4, cg4, hwg4, hfg4⟩ := Hg4.out
      have hng4 : ng4 ≤ 1000000 := by rw [← hfg4.1]; decide
      have qg4 := hwg4.cell 0
      simp at qg4
      have HC := Lib.hid (bytes_call w21 Ag4 ng4 cg4 FA [97, 98, 0, 0, 101, 102] 6 hfg4 hng4 fy2 rfl (by omega))
      clear hwg4 hfg4
      go_wp2_with fail
      refine HC.out.mono ?_
      clear HC qg4
      rintro en w22 ⟨Dg4, dg4, rfl, hog4, hbg4⟩
      replace Hg4 := Lib.hid (Hg4.out.ext hbg4)
      replace Hg5 := Lib.hid (Hg5.out.ext hbg4)
      replace Hg6 := Lib.hid (Hg6.out.ext hbg4)
      replace Hg7 := Lib.hid (Hg7.out.ext hbg4)
      replace HB := Lib.hid (HB.out.trans (hbg4.mono HB.out.size))
      have hstg4 : (convert 26 9 (.slice Dg4 6 dg4)).run Try.prog w22 = .ok (.string { data := #[97, 98, 0, 0, 101, 102] }) w22 := run_string_of (P := Try.prog) (w := w22) (d := 9) Try.underlying26 Try.underlying5 Try.underlying9 (Rd.of_own hog4) dg4
      clear hog4 hbg4
      obtain ⟨Ag4', ng4', cg4', hwg4, hfg4⟩ := Hg4.out
      have hng4' : ng4' ≤ 1000000 := by rw [← hfg4.1]; decide
      have qg4 := hwg4.cell 0
      simp at qg4
      have HC := Lib.hid (vol_call w22 Ag4' ng4' cg4' FA 0 hfg4 hng4' fz2)
      clear hwg4 hfg4
      go_wp2_with fail
      refine HC.out.mono ?_
      clear HC qg4
      rintro en w23 ⟨rfl, hbg4⟩
      replace Hg4 := Lib.hid (Hg4.out.ext hbg4)
      replace Hg5 := Lib.hid (Hg5.out.ext hbg4)
      replace Hg6 := Lib.hid (Hg6.out.ext hbg4)
      replace Hg7 := Lib.hid (Hg7.out.ext hbg4)
      replace HB := Lib.hid (HB.out.trans (hbg4.mono HB.out.size))
      clear hbg4
      obtain ⟨Ag5, ng5, cg5, hwg5, hfg5⟩ := Hg5.out
      have hng5 : ng5 ≤ 1000000 := by rw [← hfg5.1]; decide
      have qg5 := hwg5.cell 0
      simp at qg5
      have HC := Lib.hid (bytes_call w23 Ag5 ng5 cg5 FB [97, 98, 99, 100] 4 hfg5 hng5 fy3 rfl (by omega))
      clear hwg5 hfg5
      go_wp2_with fail
      refine HC.out.mono ?_
      clear HC qg5
      rintro en w24 ⟨Dg5, dg5, rfl, hog5, hbg5⟩
      replace Hg4 := Lib.hid (Hg4.out.ext hbg5)
      replace Hg5 := Lib.hid (Hg5.out.ext hbg5)
      replace Hg6 := Lib.hid (Hg6.out.ext hbg5)
      replace Hg7 := Lib.hid (Hg7.out.ext hbg5)
      replace HB := Lib.hid (HB.out.trans (hbg5.mono HB.out.size))
      have hstg5 : (convert 26 9 (.slice Dg5 4 dg5)).run Try.prog w24 = .ok (.string { data := #[97, 98, 99, 100] }) w24 := run_string_of (P := Try.prog) (w := w24) (d := 9) Try.underlying26 Try.underlying5 Try.underlying9 (Rd.of_own hog5) dg5
      clear hog5 hbg5
      obtain ⟨Ag6, ng6, cg6, hwg6, hfg6⟩ := Hg6.out
      have hng6 : ng6 ≤ 1000000 := by rw [← hfg6.1]; decide
      have qg6 := hwg6.cell 0
      simp at qg6
      have HC := Lib.hid (bytes_call w24 Ag6 ng6 cg6 F0 [97, 98] 2 hfg6 hng6 fy4 rfl (by omega))
      clear hwg6 hfg6
      go_wp2_with fail
      refine HC.out.mono ?_
      clear HC qg6
      rintro en w25 ⟨Dg6, dg6, rfl, hog6, hbg6⟩
      replace Hg4 := Lib.hid (Hg4.out.ext hbg6)
      replace Hg5 := Lib.hid (Hg5.out.ext hbg6)
      replace Hg6 := Lib.hid (Hg6.out.ext hbg6)
      replace Hg7 := Lib.hid (Hg7.out.ext hbg6)
      replace HB := Lib.hid (HB.out.trans (hbg6.mono HB.out.size))
      have hstg6 : (convert 26 9 (.slice Dg6 2 dg6)).run Try.prog w25 = .ok (.string { data := #[97, 98] }) w25 := run_string_of (P := Try.prog) (w := w25) (d := 9) Try.underlying26 Try.underlying5 Try.underlying9 (Rd.of_own hog6) dg6
      clear hog6 hbg6
      obtain ⟨Ag7, ng7, cg7, hwg7, hfg7⟩ := Hg7.out
      have hng7 : ng7 ≤ 1000000 := by rw [← hfg7.1]; decide
      have qg7 := hwg7.cell 0
      simp at qg7
      have HC := Lib.hid (bytes_call w25 Ag7 ng7 cg7 FZ [97, 98, 99, 100, 101, 102] 6 hfg7 hng7 fy5 rfl (by omega))
      clear hwg7 hfg7
      go_wp2_with fail
      refine HC.out.mono ?_
      clear HC qg7
      rintro en w26 ⟨Dg7, dg7, rfl, hog7, hbg7⟩
      replace Hg4 := Lib.hid (Hg4.out.ext hbg7)
      replace Hg5 := Lib.hid (Hg5.out.ext hbg7)
      replace Hg6 := Lib.hid (Hg6.out.ext hbg7)
      replace Hg7 := Lib.hid (Hg7.out.ext hbg7)
      replace HB := Lib.hid (HB.out.trans (hbg7.mono HB.out.size))
      have hstg7 : (convert 26 9 (.slice Dg7 6 dg7)).run Try.prog w26 = .ok (.string { data := #[97, 98, 99, 100, 101, 102] }) w26 := run_string_of (P := Try.prog) (w := w26) (d := 9) Try.underlying26 Try.underlying5 Try.underlying9 (Rd.of_own hog7) dg7
      clear hog7 hbg7
      go_wp2_with fail
      go_ret
      exact ⟨rfl, HB.out⟩
end Go.Proofs.Ytankhjchdnfpfaa
