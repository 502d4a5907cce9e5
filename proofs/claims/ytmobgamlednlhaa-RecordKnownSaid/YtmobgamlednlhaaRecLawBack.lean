/-
  Records: the law RecordBack.
-/
import Derived.Test.YtmobgamlednlhaaRecBackLaw
import Derived.Test.YtmobgamlednlhaaRecLawPuts
import Derived.Test.YtmobgamlednlhaaUndef
namespace Go.Proofs.Ytmobgamlednlhaa
open Go.RowKit
theorem few_c (w : World) (r : Rc) (hr : r.ok) (b : Bool) (hb0 : b = (decide (r.name.size ≤ 100) && decide (r.to.size ≤ 100))) : Calls Try.prog 8 #[.agg r.cells] w fun en w' => en = .returned (.bool b) ∧ Below w.heap.size w w' := few_any w r hr b hb0
theorem put_c (w : World) (r : Rc) (hr : r.ok) : Calls Try.prog 12 #[.agg r.cells] w (PutP r w) := put_rec_any w r hr
theorem parse_c (w : World) (A : Option Addr) (n cap : Nat) (b : List UInt8) (B : Nat) (hB : B ≤ w.heap.size) (h : Rd w B 1 A n (byts b)) (hc : n ≤ cap) (hm : cap ≤ maxLen) (hn : n ≤ 100000000) (x : Rc) (e : Nat) (hp : Rc.parse b = (x, e)) :
    Calls Try.prog 18 #[.slice A n cap] w fun en w' => en = .returned (.tuple #[.agg x.cells, .int .i64 e]) ∧ Below w.heap.size w w' := by
  have h := parse_any w A n cap b B hB h hc hm hn
  rw [hp] at h
  exact h
attribute [local go_sem] Instr.makeFunc Oper.growAt Oper.growUpon GSpec.fix GSpec.row GSpec.wh GSpec.own GSpec.box GSpec.kmap GSpec.lk GSpec.lk1 GSpec.put match_undef
attribute [local irreducible] wpList
set_option maxRecDepth 100000 in
set_option maxHeartbeats 16000000 in
theorem recBack_any (w : World) (r s : Rc) (hr : r.ok) (hs : s.ok) (A : Option Addr) (n cap : Nat) (b : List UInt8) (h : Rd w w.heap.size 1 A n (byts b)) (hc : n ≤ cap) (hma : cap ≤ maxLen) : Calls Try.prog 6 #[r.val, s.val, .slice A n cap] w fun en w' => en = .returned (.bool true) ∧ Below w.heap.size w w' := by
  have e1 : r.val = .agg r.cells := rfl
  have e2 : s.val = .agg s.cells := rfl
  rw [e1, e2]
  clear e1 e2
  have hz0 : (w.alloc (.cells r.cells 24)).heap.size = w.heap.size + 1 := by simp
  have WR := Lib.hid ((Whole.new w 24 r.cells).alloc (.cells s.cells 24))
  have WS := Lib.hid (show Whole ((w.alloc (.cells r.cells 24)).alloc (.cells s.cells 24)) (w.heap.size + 1) 24 s.cells by rw [← hz0]; exact Whole.new _ _ _)
  have HB := Lib.hid ((belowK w (.cells r.cells 24)).trans ((belowK (w.alloc (.cells r.cells 24)) (.cells s.cells 24)).mono (by rw [hz0]; omega)))
  have RA := Lib.hid (h.below HB.out)
  have hbl := h.blen
  have HOr := Lib.hid hr
  have HOs := Lib.hid hs
  clear h hr hs hz0
  obtain ⟨fr, hfr⟩ : ∃ b, b = (decide (r.name.size ≤ 100) && decide (r.to.size ≤ 100)) := ⟨_, rfl⟩
  obtain ⟨fs, hfs⟩ : ∃ b, b = (decide (s.name.size ≤ 100) && decide (s.to.size ≤ 100)) := ⟨_, rfl⟩
  have Hfr := Lib.hid hfr
  have Hfs := Lib.hid hfs
  clear hfr hfs
  cases fr with
  | false =>
    go_enter Try.func6, Try.ntmps6
    go_wp2_with (refine wpList_load_rowg rfl 24 (.tmp 3) rfl w.heap.size rfl 24 r.cells _ WR.out Try.underlying24 rfl (rec_size _) ?_)
    refine (few_c _ r HOr.out false Hfr.out).mono ?_
    rintro en w1 ⟨rfl, hb⟩
    replace HB := Lib.hid (HB.out.trans (hb.mono HB.out.size))
    clear hb
    go_wp2_with fail
    refine (rworks_any w1).mono ?_
    rintro en wz ⟨rfl, hbz⟩
    have HBZ := Lib.hid (HB.out.trans (hbz.mono HB.out.size))
    clear hbz
    go_wp2_with fail
    go_ret
    exact ⟨rfl, HBZ.out⟩
  | true =>
    cases fs with
    | false =>
      go_enter Try.func6, Try.ntmps6
      go_wp2_with (refine wpList_load_rowg rfl 24 (.tmp 3) rfl w.heap.size rfl 24 r.cells _ WR.out Try.underlying24 rfl (rec_size _) ?_)
      refine (few_c _ r HOr.out true Hfr.out).mono ?_
      rintro en w1 ⟨rfl, hb⟩
      replace WR := Lib.hid (WR.out.below hb WR.out.lt)
      replace WS := Lib.hid (WS.out.below hb WS.out.lt)
      replace RA := Lib.hid (RA.out.below (hb.mono HB.out.size))
      replace HB := Lib.hid (HB.out.trans (hb.mono HB.out.size))
      clear hb
      go_wp2_with (refine wpList_load_rowg rfl 24 (.tmp 4) rfl (w.heap.size + 1) rfl 24 s.cells _ WS.out Try.underlying24 rfl (rec_size _) ?_)
      refine (few_c _ s HOs.out false Hfs.out).mono ?_
      rintro en w2 ⟨rfl, hb⟩
      replace HB := Lib.hid (HB.out.trans (hb.mono HB.out.size))
      clear hb
      go_wp2_with fail
      refine (rworks_any w2).mono ?_
      rintro en wz ⟨rfl, hbz⟩
      have HBZ := Lib.hid (HB.out.trans (hbz.mono HB.out.size))
      clear hbz
      go_wp2_with fail
      go_ret
      exact ⟨rfl, HBZ.out⟩
    | true =>
      by_cases hbig : 400 < n
      · have hd : decide ((400 : Int) < (n : Int)) = true := by simp; omega
        clear hbig
        go_enter Try.func6, Try.ntmps6
        go_wp2_with (refine wpList_load_rowg rfl 24 (.tmp 3) rfl w.heap.size rfl 24 r.cells _ WR.out Try.underlying24 rfl (rec_size _) ?_)
        refine (few_c _ r HOr.out true Hfr.out).mono ?_
        rintro en w1 ⟨rfl, hb⟩
        replace WR := Lib.hid (WR.out.below hb WR.out.lt)
        replace WS := Lib.hid (WS.out.below hb WS.out.lt)
        replace RA := Lib.hid (RA.out.below (hb.mono HB.out.size))
        replace HB := Lib.hid (HB.out.trans (hb.mono HB.out.size))
        clear hb
        go_wp2_with (refine wpList_load_rowg rfl 24 (.tmp 4) rfl (w.heap.size + 1) rfl 24 s.cells _ WS.out Try.underlying24 rfl (rec_size _) ?_)
        refine (few_c _ s HOs.out true Hfs.out).mono ?_
        rintro en w2 ⟨rfl, hb⟩
        replace WR := Lib.hid (WR.out.below hb WR.out.lt)
        replace WS := Lib.hid (WS.out.below hb WS.out.lt)
        replace RA := Lib.hid (RA.out.below (hb.mono HB.out.size))
        replace HB := Lib.hid (HB.out.trans (hb.mono HB.out.size))
        clear hb
        go_wp2_with fail
        refine (rworks_any w2).mono ?_
        rintro en wz ⟨rfl, hbz⟩
        have HBZ := Lib.hid (HB.out.trans (hbz.mono HB.out.size))
        clear hbz
        go_wp2_with fail
        go_ret
        exact ⟨rfl, HBZ.out⟩
      · have hd : decide ((400 : Int) < (n : Int)) = false := by simp; omega
        obtain ⟨pp, hpp⟩ : ∃ y, Rc.parse b = y := ⟨_, rfl⟩
        obtain ⟨x, e⟩ := pp
        have HPB := Lib.hid (Rc.parse_back (by omega) hpp)
        have HP0 := Lib.hid hpp
        have HN := Lib.hid (show n ≤ 400 by omega)
        have HBL := Lib.hid hbl
        clear hpp hbig hbl
        go_enter Try.func6, Try.ntmps6
        go_wp2_with (refine wpList_load_rowg rfl 24 (.tmp 3) rfl w.heap.size rfl 24 r.cells _ WR.out Try.underlying24 rfl (rec_size _) ?_)
        refine (few_c _ r HOr.out true Hfr.out).mono ?_
        rintro en w1 ⟨rfl, hb⟩
        replace WR := Lib.hid (WR.out.below hb WR.out.lt)
        replace WS := Lib.hid (WS.out.below hb WS.out.lt)
        replace RA := Lib.hid (RA.out.below (hb.mono HB.out.size))
        replace HB := Lib.hid (HB.out.trans (hb.mono HB.out.size))
        clear hb
        go_wp2_with (refine wpList_load_rowg rfl 24 (.tmp 4) rfl (w.heap.size + 1) rfl 24 s.cells _ WS.out Try.underlying24 rfl (rec_size _) ?_)
        refine (few_c _ s HOs.out true Hfs.out).mono ?_
        rintro en w2 ⟨rfl, hb⟩
        replace WR := Lib.hid (WR.out.below hb WR.out.lt)
        replace WS := Lib.hid (WS.out.below hb WS.out.lt)
        replace RA := Lib.hid (RA.out.below (hb.mono HB.out.size))
        replace HB := Lib.hid (HB.out.trans (hb.mono HB.out.size))
        clear hb
        go_wp2_with fail
        refine (parse_c _ A n cap b w.heap.size HB.out.size RA.out hc hma (by have := HN.out; omega) x e HP0.out).mono ?_
        rintro en w3 ⟨rfl, hb⟩
        replace WR := Lib.hid (WR.out.below hb WR.out.lt)
        replace WS := Lib.hid (WS.out.below hb WS.out.lt)
        replace RA := Lib.hid (RA.out.below (hb.mono HB.out.size))
        replace HB := Lib.hid (HB.out.trans (hb.mono HB.out.size))
        clear hb
        by_cases he0 : e = 0
        · obtain ⟨hxr, hxb⟩ := HPB.out.2 he0
          subst he0
          have HXB := Lib.hid hxb
          have HEx := Lib.hid (show x.putE = 0 by unfold Rc.putE; rw [hxr]; rfl)
          have HOx := Lib.hid HPB.out.1
          have HRx := Lib.hid (show ∀ w, Calls Try.prog 14 #[.agg x.cells] w (fun en w' => en = .returned (.bool true) ∧ Below w.heap.size w w') from fun w => by rw [← hxr]; exact right_any w x HPB.out.1)
          clear hxr hxb
          have hz : ((0 : Nat) : Int) = 0 := rfl
          rw [hz]
          clear hz
          go_wp2_with (first
            | (refine wpList_store_row rfl 24 (.tmp 7) (.tmp 34) rfl w3.heap.size x.cells rfl rfl 24 _ (Whole.new _ _ _) (rec_size _) rfl (rec_cells _) ?_)
            | (refine wpList_load_rowg rfl 24 (.tmp 7) rfl w3.heap.size rfl 24 x.cells _ ((Whole.new w3 24 #[.int .u8 0, .int .u64 0, .int .u64 0, .int .u64 0, .int .u64 0, .int .u64 0, .int .u64 0, .int .u64 0, .int .u64 0, .int .u64 0, .string ⟨#[]⟩, .string ⟨#[]⟩]).row x.cells) Try.underlying24 rfl (rec_size _) ?_))
          have g1 := (Whole.new w3 24 #[.int .u8 0, .int .u64 0, .int .u64 0, .int .u64 0, .int .u64 0, .int .u64 0, .int .u64 0, .int .u64 0, .int .u64 0, .int .u64 0, .string ⟨#[]⟩, .string ⟨#[]⟩]).row x.cells
          have g2 := Below.setRow ((Below.refl w3.heap.size w3).alloc (Nat.le_refl _) (.cells #[.int .u8 0, .int .u64 0, .int .u64 0, .int .u64 0, .int .u64 0, .int .u64 0, .int .u64 0, .int .u64 0, .int .u64 0, .int .u64 0, .string ⟨#[]⟩, .string ⟨#[]⟩] 24)) (g := w3.heap.size) (Nat.le_refl _) x.cells
          replace WR := Lib.hid (WR.out.below g2 WR.out.lt)
          replace WS := Lib.hid (WS.out.below g2 WS.out.lt)
          replace RA := Lib.hid (RA.out.below (g2.mono HB.out.size))
          replace HB := Lib.hid (HB.out.trans (g2.mono HB.out.size))
          have XH := Lib.hid g1
          clear g1 g2
          generalize World.setRow (w3.alloc (.cells #[.int .u8 0, .int .u64 0, .int .u64 0, .int .u64 0, .int .u64 0, .int .u64 0, .int .u64 0, .int .u64 0, .int .u64 0, .int .u64 0, .string ⟨#[]⟩, .string ⟨#[]⟩] 24)) w3.heap.size x.cells = w4 at *
          refine (put_c _ x HOx.out).mono ?_
          rintro en w5 ⟨Dx, cx, rfl, ho, hb⟩
          replace WR := Lib.hid (WR.out.below hb WR.out.lt)
          replace WS := Lib.hid (WS.out.below hb WS.out.lt)
          replace XH := Lib.hid (XH.out.below hb XH.out.lt)
          replace RA := Lib.hid (RA.out.below (hb.mono HB.out.size))
          replace HB := Lib.hid (HB.out.trans (hb.mono HB.out.size))
          rw [HXB.out, HBL.out] at ho
          rw [HXB.out, HBL.out, HEx.out]
          have HCX := Lib.hid (Rd.of_own ho)
          clear ho hb
          have hz2 : ((0 : Nat) : Int) = 0 := rfl
          rw [hz2]
          clear hz2
          go_wp2_with (refine wpList_load_rowg rfl 24 (.tmp 7) rfl w3.heap.size rfl 24 x.cells _ XH.out Try.underlying24 rfl (rec_size _) ?_)
          refine (HRx.out _).mono ?_
          rintro en w6 ⟨rfl, hb⟩
          obtain ⟨T5, hT5⟩ : ∃ T, w5.heap.size = T := ⟨_, rfl⟩
          have HT5 := Lib.hid (show T5 ≤ w5.heap.size by omega)
          rw [hT5] at HCX
          clear hT5
          replace WR := Lib.hid (WR.out.below hb WR.out.lt)
          replace WS := Lib.hid (WS.out.below hb WS.out.lt)
          replace RA := Lib.hid (RA.out.below (hb.mono HB.out.size))
          replace HCX := Lib.hid (HCX.out.below (hb.mono HT5.out))
          replace HT5 := Lib.hid (Nat.le_trans HT5.out hb.size)
          replace HB := Lib.hid (HB.out.trans (hb.mono HB.out.size))
          clear hb HRx
          go_wp2_with fail
          refine (same_any w6 Dx n cx b A n cap b T5 w.heap.size HT5.out HB.out.size HCX.out RA.out (by have := HN.out; omega) (by have := HN.out; omega) true (by simp)).mono ?_
          rintro en w7 ⟨rfl, hb⟩
          replace WR := Lib.hid (WR.out.below hb WR.out.lt)
          replace WS := Lib.hid (WS.out.below hb WS.out.lt)
          replace HB := Lib.hid (HB.out.trans (hb.mono HB.out.size))
          clear hb HCX HT5 XH
          go_wp2_with (refine wpList_load_rowg rfl 24 (.tmp 3) rfl w.heap.size rfl 24 r.cells _ WR.out Try.underlying24 rfl (rec_size _) ?_)
          refine (put_c _ r HOr.out).mono ?_
          rintro en w7p ⟨D, cc, rfl, ho, hb⟩
          replace WR := Lib.hid (WR.out.below hb WR.out.lt)
          replace WS := Lib.hid (WS.out.below hb WS.out.lt)
          replace HB := Lib.hid (HB.out.trans (hb.mono HB.out.size))
          have HCC := Lib.hid (own_cap ho)
          have RC := Lib.hid (Rd.of_own ho)
          clear ho hb
          obtain ⟨T, hT⟩ : ∃ T, w7p.heap.size = T := ⟨_, rfl⟩
          have HT := Lib.hid (show T ≤ w7p.heap.size by omega)
          rw [hT] at RC
          clear hT
          cases hr : r.right with
          | false =>
            have hL : r.putB.length = 0 := by unfold Rc.putB; rw [hr]; rfl
            have hE : r.putE = 2 := by unfold Rc.putE; rw [hr]; rfl
            rw [hL, hE]
            have HRR := Lib.hid (show ∀ w, Calls Try.prog 14 #[.agg r.cells] w (fun en w' => en = .returned (.bool false) ∧ Below w.heap.size w w') from fun w => by rw [← hr]; exact right_any w r HOr.out)
            clear hr hL hE
            have hone : ((2 : Nat) : Int) = 2 := rfl
            rw [hone]
            clear hone
            go_wp2_with (refine wpList_load_rowg rfl 24 (.tmp 3) rfl w.heap.size rfl 24 r.cells _ WR.out Try.underlying24 rfl (rec_size _) ?_)
            refine (HRR.out _).mono ?_
            rintro en w7q ⟨rfl, hb⟩
            replace WR := Lib.hid (WR.out.below hb WR.out.lt)
            replace HB := Lib.hid (HB.out.trans (hb.mono HB.out.size))
            clear hb HRR
            go_wp2_with fail
            refine (rworks_any w7q).mono ?_
            rintro en wz ⟨rfl, hbz⟩
            have HBZ := Lib.hid (HB.out.trans (hbz.mono HB.out.size))
            clear hbz
            go_wp2_with fail
            go_ret
            exact ⟨rfl, HBZ.out⟩
          | true =>
            have HE := Lib.hid (show r.putE = 0 by unfold Rc.putE; rw [hr]; rfl)
            have HP := Lib.hid (Rc.parse_put hr HOr.out)
            have HRR := Lib.hid (show ∀ w, Calls Try.prog 14 #[.agg r.cells] w (fun en w' => en = .returned (.bool true) ∧ Below w.heap.size w w') from fun w => by rw [← hr]; exact right_any w r HOr.out)
            have HIJ := Lib.hid (show s.right = true → decide (r.putB = s.putB) = r.eqB s from fun hs => Rc.put_inj hr hs HOr.out HOs.out)
            have HLL := Lib.hid (show r.putB.length ≤ 800 from Rc.putB_length)
            rw [HE.out]
            clear hr HE
            obtain ⟨L, hL⟩ : ∃ L, r.putB.length = L := ⟨_, rfl⟩
            rw [hL] at HLL HCC RC ⊢
            clear hL
            go_wp2_with (refine wpList_load_rowg rfl 24 (.tmp 3) rfl w.heap.size rfl 24 r.cells _ WR.out Try.underlying24 rfl (rec_size _) ?_)
            refine (HRR.out _).mono ?_
            rintro en w7q ⟨rfl, hb⟩
            replace WR := Lib.hid (WR.out.below hb WR.out.lt)
            replace WS := Lib.hid (WS.out.below hb WS.out.lt)
            replace RC := Lib.hid (RC.out.below (hb.mono HT.out))
            replace HT := Lib.hid (Nat.le_trans HT.out hb.size)
            replace HB := Lib.hid (HB.out.trans (hb.mono HB.out.size))
            clear hb HRR
            go_wp2_with fail
            refine (parse_c _ D L cc r.putB T HT.out RC.out HCC.out.1 HCC.out.2 (by have := HLL.out; omega) r 0 HP.out).mono ?_
            rintro en w7t ⟨rfl, hb⟩
            replace WR := Lib.hid (WR.out.below hb WR.out.lt)
            replace WS := Lib.hid (WS.out.below hb WS.out.lt)
            replace RC := Lib.hid (RC.out.below (hb.mono HT.out))
            replace HT := Lib.hid (Nat.le_trans HT.out hb.size)
            replace HB := Lib.hid (HB.out.trans (hb.mono HB.out.size))
            clear hb HP
            go_wp2_with (first
              | (refine wpList_store_row rfl 24 (.tmp 13) (.tmp 77) rfl w7t.heap.size r.cells rfl rfl 24 _ (Whole.new _ _ _) (rec_size _) rfl (rec_cells _) ?_)
              | (refine wpList_load_rowg rfl 24 (.tmp 4) rfl (w.heap.size + 1) rfl 24 s.cells _ ((WS.out.alloc _).row_far (by have := WS.out.lt; omega) _) Try.underlying24 rfl (rec_size _) ?_))
            have g1 := (Whole.new w7t 24 #[.int .u8 0, .int .u64 0, .int .u64 0, .int .u64 0, .int .u64 0, .int .u64 0, .int .u64 0, .int .u64 0, .int .u64 0, .int .u64 0, .string ⟨#[]⟩, .string ⟨#[]⟩]).row r.cells
            have g2 := Below.setRow ((Below.refl w7t.heap.size w7t).alloc (Nat.le_refl _) (.cells #[.int .u8 0, .int .u64 0, .int .u64 0, .int .u64 0, .int .u64 0, .int .u64 0, .int .u64 0, .int .u64 0, .int .u64 0, .int .u64 0, .string ⟨#[]⟩, .string ⟨#[]⟩] 24)) (g := w7t.heap.size) (Nat.le_refl _) r.cells
            replace WR := Lib.hid (WR.out.below g2 WR.out.lt)
            replace WS := Lib.hid (WS.out.below g2 WS.out.lt)
            replace RC := Lib.hid (RC.out.below (g2.mono HT.out))
            replace HT := Lib.hid (Nat.le_trans HT.out g2.size)
            replace HB := Lib.hid (HB.out.trans (g2.mono HB.out.size))
            have YH := Lib.hid g1
            clear g1 g2
            generalize World.setRow (w7t.alloc (.cells #[.int .u8 0, .int .u64 0, .int .u64 0, .int .u64 0, .int .u64 0, .int .u64 0, .int .u64 0, .int .u64 0, .int .u64 0, .int .u64 0, .string ⟨#[]⟩, .string ⟨#[]⟩] 24)) w7t.heap.size r.cells = w7u at *
            cases hs : s.right with
            | false =>
              have HE := Lib.hid (show s.putE = 2 by unfold Rc.putE; rw [hs]; rfl)
              refine (put_c _ s HOs.out).mono ?_
              rintro en w7v ⟨D2, c2, rfl, ho, hb⟩
              rw [HE.out]
              have hone : ((2 : Nat) : Int) = 2 := rfl
              rw [hone]
              clear hone ho HE
              replace WR := Lib.hid (WR.out.below hb WR.out.lt)
              replace YH := Lib.hid (YH.out.below hb YH.out.lt)
              replace HB := Lib.hid (HB.out.trans (hb.mono HB.out.size))
              clear hb
              have hone : ((0 : Nat) : Int) = 0 := rfl
              try rw [hone]
              clear hone
              go_wp2_with fail
              have heq : ∀ w : World, (binOp .eql 24 (.agg r.cells) (.agg r.cells)).run Try.prog w = .ok (.bool true) w := fun w => by
                have h := rec_eq w r r
                rwa [show r.eqB r = true from (Rc.eqB_iff r r).2 rfl] at h
              have hgd := rec_guard
              refine wp_region_grow (fun k' => List.lookup k' [(7, (.fix (.agg r.cells))), (8, (.fix (.agg r.cells))), (25, (.fix (.bool true)))]) (by as_aux_lemma => kernel_rfl) (by as_aux_lemma => kernel_rfl) ?_
              repeat (refine wpGrow_pure rfl (fun K hK => ?_); go_simp; refine hK.out _ ?_; clear hK K)
              refine wpGrow_eff _ rfl (fun wx he hcl => ?_) (fun _ K hK => ?_) rfl
              · clear hcl
                exact growAt_load_row rfl rfl (YH.out.below he YH.out.lt) Try.underlying24 rfl (rec_size _)
              go_simp
              refine hK.out _ ?_
              clear hK K
              repeat (refine wpGrow_pure rfl (fun K hK => ?_); go_simp; refine hK.out _ ?_; clear hK K)
              refine wpGrow_eff _ rfl (fun wx he hcl => ?_) (fun _ K hK => ?_) rfl
              · clear hcl
                exact growAt_load_row rfl rfl (WR.out.below he WR.out.lt) Try.underlying24 rfl (rec_size _)
              go_simp
              refine hK.out _ ?_
              clear hK K
              repeat (refine wpGrow_pure rfl (fun K hK => ?_); go_simp; refine hK.out _ ?_; clear hK K)
              refine wpGrow_eff _ rfl (fun wx he hcl => ?_) (fun _ K hK => ?_) rfl
              · clear hcl
                have hcon := rworks_any wx
                go_simp
                try exact hcon
              go_simp
              refine hK.out _ ?_
              clear hK K
              repeat (refine wpGrow_pure rfl (fun K hK => ?_); go_simp; refine hK.out _ ?_; clear hK K)
              refine wpGrow_nil fun wx he hfin => ?_
              clear hfin
              have HB9 := Lib.hid (HB.out.trans (he.mono HB.out.size))
              clear he
              go_wp2_with fail
              go_ret
              exact ⟨rfl, HB9.out⟩
            | true =>
              have HE := Lib.hid (show s.putE = 0 by unfold Rc.putE; rw [hs]; rfl)
              have HQ := Lib.hid (HIJ.out hs)
              have HSL := Lib.hid (show s.putB.length ≤ 800 from Rc.putB_length)
              refine (put_c _ s HOs.out).mono ?_
              rintro en wv ⟨D2, c2, rfl, ho, hb⟩
              rw [HE.out]
              have hone : ((0 : Nat) : Int) = 0 := rfl
              rw [hone]
              obtain ⟨M, hM⟩ : ∃ M, s.putB.length = M := ⟨_, rfl⟩
              rw [hM] at ho HSL ⊢
              have RS := Lib.hid (Rd.of_own ho)
              clear hone ho HE hM
              replace WR := Lib.hid (WR.out.below hb WR.out.lt)
              replace WS := Lib.hid (WS.out.below hb WS.out.lt)
              replace YH := Lib.hid (YH.out.below hb YH.out.lt)
              replace RC := Lib.hid (RC.out.below (hb.mono HT.out))
              replace HT := Lib.hid (Nat.le_trans HT.out hb.size)
              replace HB := Lib.hid (HB.out.trans (hb.mono HB.out.size))
              clear hb
              have hone : ((0 : Nat) : Int) = 0 := rfl
              try rw [hone]
              clear hone
              go_wp2_with fail
              have hrr : ∀ b : Bool, (b == b) = true := fun b => by cases b <;> rfl
              have heq2 : ∀ w : World, (binOp .eql 24 (.agg r.cells) (.agg s.cells)).run Try.prog w = .ok (.bool (r.eqB s)) w := fun w => rec_eq w r s
              have heq : ∀ w : World, (binOp .eql 24 (.agg r.cells) (.agg r.cells)).run Try.prog w = .ok (.bool true) w := fun w => by
                have h := rec_eq w r r
                rwa [show r.eqB r = true from (Rc.eqB_iff r r).2 rfl] at h
              have hgd := rec_guard
              refine wp_region_grow (fun k' => List.lookup k' [(7, (.fix (.agg r.cells))), (8, (.fix (.agg r.cells))), (17, (.fix (.bool (r.eqB s)))), (18, (.fix (.agg r.cells))), (19, (.fix (.agg s.cells))), (25, (.fix (.bool true)))]) (by as_aux_lemma => kernel_rfl) (by as_aux_lemma => kernel_rfl) ?_
              repeat (refine wpGrow_pure rfl (fun K hK => ?_); go_simp; refine hK.out _ ?_; clear hK K)
              refine wpGrow_eff _ rfl (fun wx he hcl => ?_) (fun _ K hK => ?_) rfl
              · clear hcl
                exact growAt_load_row rfl rfl (YH.out.below he YH.out.lt) Try.underlying24 rfl (rec_size _)
              go_simp
              refine hK.out _ ?_
              clear hK K
              repeat (refine wpGrow_pure rfl (fun K hK => ?_); go_simp; refine hK.out _ ?_; clear hK K)
              refine wpGrow_eff _ rfl (fun wx he hcl => ?_) (fun _ K hK => ?_) rfl
              · clear hcl
                exact growAt_load_row rfl rfl (WR.out.below he WR.out.lt) Try.underlying24 rfl (rec_size _)
              go_simp
              refine hK.out _ ?_
              clear hK K
              repeat (refine wpGrow_pure rfl (fun K hK => ?_); go_simp; refine hK.out _ ?_; clear hK K)
              refine wpGrow_eff _ rfl (fun wx he hcl => ?_) (fun _ K hK => ?_) rfl
              · clear hcl
                have hcon := same_any wx D L cc r.putB D2 M c2 s.putB T wv.heap.size (Nat.le_trans HT.out he.size) he.size (RC.out.below (he.mono HT.out)) (RS.out.below he) (by have := HLL.out; omega) (by have := HSL.out; omega) (r.eqB s) HQ.out
                go_simp
                try exact hcon
              go_simp
              refine hK.out _ ?_
              clear hK K
              repeat (refine wpGrow_pure rfl (fun K hK => ?_); go_simp; refine hK.out _ ?_; clear hK K)
              refine wpGrow_eff _ rfl (fun wx he hcl => ?_) (fun _ K hK => ?_) rfl
              · clear hcl
                exact growAt_load_row rfl rfl (WR.out.below he WR.out.lt) Try.underlying24 rfl (rec_size _)
              go_simp
              refine hK.out _ ?_
              clear hK K
              repeat (refine wpGrow_pure rfl (fun K hK => ?_); go_simp; refine hK.out _ ?_; clear hK K)
              refine wpGrow_eff _ rfl (fun wx he hcl => ?_) (fun _ K hK => ?_) rfl
              · clear hcl
                exact growAt_load_row rfl rfl (WS.out.below he WS.out.lt) Try.underlying24 rfl (rec_size _)
              go_simp
              refine hK.out _ ?_
              clear hK K
              repeat (refine wpGrow_pure rfl (fun K hK => ?_); go_simp; refine hK.out _ ?_; clear hK K)
              refine wpGrow_eff _ rfl (fun wx he hcl => ?_) (fun _ K hK => ?_) rfl
              · clear hcl
                have hcon := rworks_any wx
                go_simp
                try exact hcon
              go_simp
              refine hK.out _ ?_
              clear hK K
              repeat (refine wpGrow_pure rfl (fun K hK => ?_); go_simp; refine hK.out _ ?_; clear hK K)
              refine wpGrow_nil fun wx he hfin => ?_
              clear hfin
              have HB9 := Lib.hid (HB.out.trans (he.mono HB.out.size))
              clear he
              go_wp2_with fail
              go_ret
              exact ⟨rfl, HB9.out⟩
        · have e0 : ((e : Int) == 0) = false := by simp; omega
          clear he0
          go_wp2_with (first
            | (refine wpList_store_row rfl 24 (.tmp 7) (.tmp 34) rfl w3.heap.size x.cells rfl rfl 24 _ (Whole.new _ _ _) (rec_size _) rfl (rec_cells _) ?_)
            | (refine wpList_load_rowg rfl 24 (.tmp 3) rfl w.heap.size rfl 24 r.cells _ ((WR.out.alloc _).row_far (by have := WR.out.lt; omega) _) Try.underlying24 rfl (rec_size _) ?_))
          have g1 := (Whole.new w3 24 #[.int .u8 0, .int .u64 0, .int .u64 0, .int .u64 0, .int .u64 0, .int .u64 0, .int .u64 0, .int .u64 0, .int .u64 0, .int .u64 0, .string ⟨#[]⟩, .string ⟨#[]⟩]).row x.cells
          have g2 := Below.setRow ((Below.refl w3.heap.size w3).alloc (Nat.le_refl _) (.cells #[.int .u8 0, .int .u64 0, .int .u64 0, .int .u64 0, .int .u64 0, .int .u64 0, .int .u64 0, .int .u64 0, .int .u64 0, .int .u64 0, .string ⟨#[]⟩, .string ⟨#[]⟩] 24)) (g := w3.heap.size) (Nat.le_refl _) x.cells
          replace WR := Lib.hid (WR.out.below g2 WR.out.lt)
          replace WS := Lib.hid (WS.out.below g2 WS.out.lt)
          replace RA := Lib.hid (RA.out.below (g2.mono HB.out.size))
          replace HB := Lib.hid (HB.out.trans (g2.mono HB.out.size))
          have XH := Lib.hid g1
          clear g1 g2
          generalize World.setRow (w3.alloc (.cells #[.int .u8 0, .int .u64 0, .int .u64 0, .int .u64 0, .int .u64 0, .int .u64 0, .int .u64 0, .int .u64 0, .int .u64 0, .int .u64 0, .string ⟨#[]⟩, .string ⟨#[]⟩] 24)) w3.heap.size x.cells = w4 at *
          refine (put_c _ r HOr.out).mono ?_
          rintro en w4p ⟨D, cc, rfl, ho, hb⟩
          replace WR := Lib.hid (WR.out.below hb WR.out.lt)
          replace WS := Lib.hid (WS.out.below hb WS.out.lt)
          replace RA := Lib.hid (RA.out.below (hb.mono HB.out.size))
          replace HB := Lib.hid (HB.out.trans (hb.mono HB.out.size))
          have HCC := Lib.hid (own_cap ho)
          have RC := Lib.hid (Rd.of_own ho)
          clear ho hb
          obtain ⟨T, hT⟩ : ∃ T, w4p.heap.size = T := ⟨_, rfl⟩
          have HT := Lib.hid (show T ≤ w4p.heap.size by omega)
          rw [hT] at RC
          clear hT
          cases hr : r.right with
          | false =>
            have hL : r.putB.length = 0 := by unfold Rc.putB; rw [hr]; rfl
            have hE : r.putE = 2 := by unfold Rc.putE; rw [hr]; rfl
            rw [hL, hE]
            have HRR := Lib.hid (show ∀ w, Calls Try.prog 14 #[.agg r.cells] w (fun en w' => en = .returned (.bool false) ∧ Below w.heap.size w w') from fun w => by rw [← hr]; exact right_any w r HOr.out)
            clear hr hL hE
            have hone : ((2 : Nat) : Int) = 2 := rfl
            rw [hone]
            clear hone
            go_wp2_with (refine wpList_load_rowg rfl 24 (.tmp 3) rfl w.heap.size rfl 24 r.cells _ WR.out Try.underlying24 rfl (rec_size _) ?_)
            refine (HRR.out _).mono ?_
            rintro en w4q ⟨rfl, hb⟩
            replace WR := Lib.hid (WR.out.below hb WR.out.lt)
            replace HB := Lib.hid (HB.out.trans (hb.mono HB.out.size))
            clear hb HRR
            go_wp2_with fail
            refine (rworks_any w4q).mono ?_
            rintro en wz ⟨rfl, hbz⟩
            have HBZ := Lib.hid (HB.out.trans (hbz.mono HB.out.size))
            clear hbz
            go_wp2_with fail
            go_ret
            exact ⟨rfl, HBZ.out⟩
          | true =>
            have HE := Lib.hid (show r.putE = 0 by unfold Rc.putE; rw [hr]; rfl)
            have HP := Lib.hid (Rc.parse_put hr HOr.out)
            have HRR := Lib.hid (show ∀ w, Calls Try.prog 14 #[.agg r.cells] w (fun en w' => en = .returned (.bool true) ∧ Below w.heap.size w w') from fun w => by rw [← hr]; exact right_any w r HOr.out)
            have HIJ := Lib.hid (show s.right = true → decide (r.putB = s.putB) = r.eqB s from fun hs => Rc.put_inj hr hs HOr.out HOs.out)
            have HLL := Lib.hid (show r.putB.length ≤ 800 from Rc.putB_length)
            rw [HE.out]
            clear hr HE
            obtain ⟨L, hL⟩ : ∃ L, r.putB.length = L := ⟨_, rfl⟩
            rw [hL] at HLL HCC RC ⊢
            clear hL
            go_wp2_with (refine wpList_load_rowg rfl 24 (.tmp 3) rfl w.heap.size rfl 24 r.cells _ WR.out Try.underlying24 rfl (rec_size _) ?_)
            refine (HRR.out _).mono ?_
            rintro en w4q ⟨rfl, hb⟩
            replace WR := Lib.hid (WR.out.below hb WR.out.lt)
            replace WS := Lib.hid (WS.out.below hb WS.out.lt)
            replace RC := Lib.hid (RC.out.below (hb.mono HT.out))
            replace HT := Lib.hid (Nat.le_trans HT.out hb.size)
            replace HB := Lib.hid (HB.out.trans (hb.mono HB.out.size))
            clear hb HRR
            go_wp2_with fail
            refine (parse_c _ D L cc r.putB T HT.out RC.out HCC.out.1 HCC.out.2 (by have := HLL.out; omega) r 0 HP.out).mono ?_
            rintro en w4t ⟨rfl, hb⟩
            replace WR := Lib.hid (WR.out.below hb WR.out.lt)
            replace WS := Lib.hid (WS.out.below hb WS.out.lt)
            replace RC := Lib.hid (RC.out.below (hb.mono HT.out))
            replace HT := Lib.hid (Nat.le_trans HT.out hb.size)
            replace HB := Lib.hid (HB.out.trans (hb.mono HB.out.size))
            clear hb HP
            go_wp2_with (first
              | (refine wpList_store_row rfl 24 (.tmp 13) (.tmp 77) rfl w4t.heap.size r.cells rfl rfl 24 _ (Whole.new _ _ _) (rec_size _) rfl (rec_cells _) ?_)
              | (refine wpList_load_rowg rfl 24 (.tmp 4) rfl (w.heap.size + 1) rfl 24 s.cells _ ((WS.out.alloc _).row_far (by have := WS.out.lt; omega) _) Try.underlying24 rfl (rec_size _) ?_))
            have g1 := (Whole.new w4t 24 #[.int .u8 0, .int .u64 0, .int .u64 0, .int .u64 0, .int .u64 0, .int .u64 0, .int .u64 0, .int .u64 0, .int .u64 0, .int .u64 0, .string ⟨#[]⟩, .string ⟨#[]⟩]).row r.cells
            have g2 := Below.setRow ((Below.refl w4t.heap.size w4t).alloc (Nat.le_refl _) (.cells #[.int .u8 0, .int .u64 0, .int .u64 0, .int .u64 0, .int .u64 0, .int .u64 0, .int .u64 0, .int .u64 0, .int .u64 0, .int .u64 0, .string ⟨#[]⟩, .string ⟨#[]⟩] 24)) (g := w4t.heap.size) (Nat.le_refl _) r.cells
            replace WR := Lib.hid (WR.out.below g2 WR.out.lt)
            replace WS := Lib.hid (WS.out.below g2 WS.out.lt)
            replace RC := Lib.hid (RC.out.below (g2.mono HT.out))
            replace HT := Lib.hid (Nat.le_trans HT.out g2.size)
            replace HB := Lib.hid (HB.out.trans (g2.mono HB.out.size))
            have YH := Lib.hid g1
            clear g1 g2
            generalize World.setRow (w4t.alloc (.cells #[.int .u8 0, .int .u64 0, .int .u64 0, .int .u64 0, .int .u64 0, .int .u64 0, .int .u64 0, .int .u64 0, .int .u64 0, .int .u64 0, .string ⟨#[]⟩, .string ⟨#[]⟩] 24)) w4t.heap.size r.cells = w4u at *
            cases hs : s.right with
            | false =>
              have HE := Lib.hid (show s.putE = 2 by unfold Rc.putE; rw [hs]; rfl)
              refine (put_c _ s HOs.out).mono ?_
              rintro en w4v ⟨D2, c2, rfl, ho, hb⟩
              rw [HE.out]
              have hone : ((2 : Nat) : Int) = 2 := rfl
              rw [hone]
              clear hone ho HE
              replace WR := Lib.hid (WR.out.below hb WR.out.lt)
              replace YH := Lib.hid (YH.out.below hb YH.out.lt)
              replace HB := Lib.hid (HB.out.trans (hb.mono HB.out.size))
              clear hb
              have hone : ((0 : Nat) : Int) = 0 := rfl
              try rw [hone]
              clear hone
              go_wp2_with fail
              have heq : ∀ w : World, (binOp .eql 24 (.agg r.cells) (.agg r.cells)).run Try.prog w = .ok (.bool true) w := fun w => by
                have h := rec_eq w r r
                rwa [show r.eqB r = true from (Rc.eqB_iff r r).2 rfl] at h
              have hgd := rec_guard
              refine wp_region_grow (fun k' => List.lookup k' [(7, (.fix (.agg r.cells))), (8, (.fix (.agg r.cells))), (25, (.fix (.bool true)))]) (by as_aux_lemma => kernel_rfl) (by as_aux_lemma => kernel_rfl) ?_
              repeat (refine wpGrow_pure rfl (fun K hK => ?_); go_simp; refine hK.out _ ?_; clear hK K)
              refine wpGrow_eff _ rfl (fun wx he hcl => ?_) (fun _ K hK => ?_) rfl
              · clear hcl
                exact growAt_load_row rfl rfl (YH.out.below he YH.out.lt) Try.underlying24 rfl (rec_size _)
              go_simp
              refine hK.out _ ?_
              clear hK K
              repeat (refine wpGrow_pure rfl (fun K hK => ?_); go_simp; refine hK.out _ ?_; clear hK K)
              refine wpGrow_eff _ rfl (fun wx he hcl => ?_) (fun _ K hK => ?_) rfl
              · clear hcl
                exact growAt_load_row rfl rfl (WR.out.below he WR.out.lt) Try.underlying24 rfl (rec_size _)
              go_simp
              refine hK.out _ ?_
              clear hK K
              repeat (refine wpGrow_pure rfl (fun K hK => ?_); go_simp; refine hK.out _ ?_; clear hK K)
              refine wpGrow_eff _ rfl (fun wx he hcl => ?_) (fun _ K hK => ?_) rfl
              · clear hcl
                have hcon := rworks_any wx
                go_simp
                try exact hcon
              go_simp
              refine hK.out _ ?_
              clear hK K
              repeat (refine wpGrow_pure rfl (fun K hK => ?_); go_simp; refine hK.out _ ?_; clear hK K)
              refine wpGrow_nil fun wx he hfin => ?_
              clear hfin
              have HB9 := Lib.hid (HB.out.trans (he.mono HB.out.size))
              clear he
              go_wp2_with fail
              go_ret
              exact ⟨rfl, HB9.out⟩
            | true =>
              have HE := Lib.hid (show s.putE = 0 by unfold Rc.putE; rw [hs]; rfl)
              have HQ := Lib.hid (HIJ.out hs)
              have HSL := Lib.hid (show s.putB.length ≤ 800 from Rc.putB_length)
              refine (put_c _ s HOs.out).mono ?_
              rintro en wv ⟨D2, c2, rfl, ho, hb⟩
              rw [HE.out]
              have hone : ((0 : Nat) : Int) = 0 := rfl
              rw [hone]
              obtain ⟨M, hM⟩ : ∃ M, s.putB.length = M := ⟨_, rfl⟩
              rw [hM] at ho HSL ⊢
              have RS := Lib.hid (Rd.of_own ho)
              clear hone ho HE hM
              replace WR := Lib.hid (WR.out.below hb WR.out.lt)
              replace WS := Lib.hid (WS.out.below hb WS.out.lt)
              replace YH := Lib.hid (YH.out.below hb YH.out.lt)
              replace RC := Lib.hid (RC.out.below (hb.mono HT.out))
              replace HT := Lib.hid (Nat.le_trans HT.out hb.size)
              replace HB := Lib.hid (HB.out.trans (hb.mono HB.out.size))
              clear hb
              have hone : ((0 : Nat) : Int) = 0 := rfl
              try rw [hone]
              clear hone
              go_wp2_with fail
              have hrr : ∀ b : Bool, (b == b) = true := fun b => by cases b <;> rfl
              have heq2 : ∀ w : World, (binOp .eql 24 (.agg r.cells) (.agg s.cells)).run Try.prog w = .ok (.bool (r.eqB s)) w := fun w => rec_eq w r s
              have heq : ∀ w : World, (binOp .eql 24 (.agg r.cells) (.agg r.cells)).run Try.prog w = .ok (.bool true) w := fun w => by
                have h := rec_eq w r r
                rwa [show r.eqB r = true from (Rc.eqB_iff r r).2 rfl] at h
              have hgd := rec_guard
              refine wp_region_grow (fun k' => List.lookup k' [(7, (.fix (.agg r.cells))), (8, (.fix (.agg r.cells))), (17, (.fix (.bool (r.eqB s)))), (18, (.fix (.agg r.cells))), (19, (.fix (.agg s.cells))), (25, (.fix (.bool true)))]) (by as_aux_lemma => kernel_rfl) (by as_aux_lemma => kernel_rfl) ?_
              repeat (refine wpGrow_pure rfl (fun K hK => ?_); go_simp; refine hK.out _ ?_; clear hK K)
              refine wpGrow_eff _ rfl (fun wx he hcl => ?_) (fun _ K hK => ?_) rfl
              · clear hcl
                exact growAt_load_row rfl rfl (YH.out.below he YH.out.lt) Try.underlying24 rfl (rec_size _)
              go_simp
              refine hK.out _ ?_
              clear hK K
              repeat (refine wpGrow_pure rfl (fun K hK => ?_); go_simp; refine hK.out _ ?_; clear hK K)
              refine wpGrow_eff _ rfl (fun wx he hcl => ?_) (fun _ K hK => ?_) rfl
              · clear hcl
                exact growAt_load_row rfl rfl (WR.out.below he WR.out.lt) Try.underlying24 rfl (rec_size _)
              go_simp
              refine hK.out _ ?_
              clear hK K
              repeat (refine wpGrow_pure rfl (fun K hK => ?_); go_simp; refine hK.out _ ?_; clear hK K)
              refine wpGrow_eff _ rfl (fun wx he hcl => ?_) (fun _ K hK => ?_) rfl
              · clear hcl
                have hcon := same_any wx D L cc r.putB D2 M c2 s.putB T wv.heap.size (Nat.le_trans HT.out he.size) he.size (RC.out.below (he.mono HT.out)) (RS.out.below he) (by have := HLL.out; omega) (by have := HSL.out; omega) (r.eqB s) HQ.out
                go_simp
                try exact hcon
              go_simp
              refine hK.out _ ?_
              clear hK K
              repeat (refine wpGrow_pure rfl (fun K hK => ?_); go_simp; refine hK.out _ ?_; clear hK K)
              refine wpGrow_eff _ rfl (fun wx he hcl => ?_) (fun _ K hK => ?_) rfl
              · clear hcl
                exact growAt_load_row rfl rfl (WR.out.below he WR.out.lt) Try.underlying24 rfl (rec_size _)
              go_simp
              refine hK.out _ ?_
              clear hK K
              repeat (refine wpGrow_pure rfl (fun K hK => ?_); go_simp; refine hK.out _ ?_; clear hK K)
              refine wpGrow_eff _ rfl (fun wx he hcl => ?_) (fun _ K hK => ?_) rfl
              · clear hcl
                exact growAt_load_row rfl rfl (WS.out.below he WS.out.lt) Try.underlying24 rfl (rec_size _)
              go_simp
              refine hK.out _ ?_
              clear hK K
              repeat (refine wpGrow_pure rfl (fun K hK => ?_); go_simp; refine hK.out _ ?_; clear hK K)
              refine wpGrow_eff _ rfl (fun wx he hcl => ?_) (fun _ K hK => ?_) rfl
              · clear hcl
                have hcon := rworks_any wx
                go_simp
                try exact hcon
              go_simp
              refine hK.out _ ?_
              clear hK K
              repeat (refine wpGrow_pure rfl (fun K hK => ?_); go_simp; refine hK.out _ ?_; clear hK K)
              refine wpGrow_nil fun wx he hfin => ?_
              clear hfin
              have HB9 := Lib.hid (HB.out.trans (he.mono HB.out.size))
              clear he
              go_wp2_with fail
              go_ret
              exact ⟨rfl, HB9.out⟩
end Go.Proofs.Ytmobgamlednlhaa
