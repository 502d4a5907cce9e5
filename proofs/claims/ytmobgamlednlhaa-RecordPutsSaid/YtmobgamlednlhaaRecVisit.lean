/-
  Records: visit, for whatever visitor.
-/
import Derived.Test.YtmobgamlednlhaaRecMeth
import Derived.Test.YtmobgamlednlhaaRecVisKit
import Derived.BigRegion
namespace Go.Proofs.Ytmobgamlednlhaa
open Go.RowKit
attribute [local go_sem] Instr.makeFunc Oper.growAt Oper.growUpon GSpec.fix GSpec.row GSpec.wh GSpec.own GSpec.box
attribute [local irreducible] wpList
set_option maxRecDepth 100000 in
set_option maxHeartbeats 16000000 in
theorem visit_any (TT : TypeId) (f1 f2 : FuncId) (m1 : ∀ (v : Value) (w : World), (method 231 TT v "chartroom/record.number").run Try.prog w = .ok (f1, v) w)
    (m2 : ∀ (v : Value) (w : World), (method 231 TT v "chartroom/record.text").run Try.prog w = .ok (f2, v) w)
    (c1 : ∀ (args : Array Value) (w : World), (callFunc f1 args).run Try.prog w = .ok (.enter f1 args) w) (c2 : ∀ (args : Array Value) (w : World), (callFunc f2 args).run Try.prog w = .ok (.enter f2 args) w)
    (V : Nat → List Nat → World → Prop) (w : World) (gr gt : Nat) (m3 : ∀ w, (nilAhead (Try.prog.types.size + Made.depth) TT (.pointer (some ⟨gt, 0, none⟩)) "chartroom/record.number").run Try.prog w = .ok (some false) w)
    (m4 : ∀ w, (nilAhead (Try.prog.types.size + Made.depth) TT (.pointer (some ⟨gt, 0, none⟩)) "chartroom/record.text").run Try.prog w = .ok (some false) w)
    (hgr : gr < w.heap.size) (hgt : gt < w.heap.size) (A : Option Addr) (n c : Nat) (ps : List Nat) (hps : ∀ p ∈ ps, p < 8) (hA : Rd w w.heap.size 1 A n (smalls ps)) (hAb : 0 < n → ∀ b o, A = some ⟨b, o, none⟩ → b ≠ gr ∧ b ≠ gt) (hn : n ≤ 8)
    (HV : ∀ T w1, Below w.heap.size w w1 → w.heap.size ≤ T → T = w1.heap.size → V T [] w1)
    (HX : ∀ T l w1 w2, V T l w1 → Below w1.heap.size w1 w2 → V T l w2)
    (HN : ∀ T l i w1, w.heap.size ≤ T → T ≤ w1.heap.size → V T l w1 → l.length ≤ 10 → 1 ≤ i → i ≤ 9 → Calls Try.prog f1 #[.pointer (some ⟨gt, 0, none⟩), .pointer (some ⟨gr, i, none⟩)] w1 fun en w2 => en = .returned (.tuple #[]) ∧ V T (l ++ [i]) w2 ∧ Fix T gr gt w1 w2)
    (HT : ∀ T l i w1, w.heap.size ≤ T → T ≤ w1.heap.size → V T l w1 → l.length ≤ 10 → i = 10 ∨ i = 11 → Calls Try.prog f2 #[.pointer (some ⟨gt, 0, none⟩), .pointer (some ⟨gr, i, none⟩)] w1 fun en w2 => en = .returned (.tuple #[]) ∧ V T (l ++ [i]) w2 ∧ Fix T gr gt w1 w2) :
    Calls Try.prog 30 #[.pointer (some ⟨gr, 0, none⟩), .iface TT (.pointer (some ⟨gt, 0, none⟩)), .slice A n c] w fun en w' => en = .returned (.tuple #[]) ∧ ∃ T, w.heap.size ≤ T ∧ V T ([1, 2, 3] ++ ps.map (· + 4)) w' ∧ ∃ w0, Below w.heap.size w w0 ∧ Fix T gr gt w0 w' := by
  have HVH := Lib.hid HV
  have HXH := Lib.hid HX
  have HNH := Lib.hid HN
  have HTH := Lib.hid HT
  have HRA := Lib.hid hA
  have HAB := Lib.hid hAb
  have HPS := Lib.hid hps
  have hpl : ps.length = n := by have := hA.1; unfold smalls at this; rw [List.length_map] at this; omega
  have HPL := Lib.hid hpl
  clear HV HX HN HT hA hAb hps hpl
  have M3 := Lib.hid m3
  have M4 := Lib.hid m4
  clear m3 m4
  have x0 := fun p0 p1 p2 w => (index_three p0 p1 p2 w).1
  have x1 := fun p0 p1 p2 w => (index_three p0 p1 p2 w).2.1
  have x2 := fun p0 p1 p2 w => (index_three p0 p1 p2 w).2.2
  go_enter Try.func30, Try.ntmps30
  go_wp2_with fail
  refine wp_region_tail 20 (fun k' => List.lookup k' [(19, .box w.heap.size 91 #[.pointer none, .pointer none, .pointer none, .pointer none, .pointer none, .pointer none])]) (by as_aux_lemma => kernel_rfl) (by as_aux_lemma => kernel_rfl) (by as_aux_lemma => kernel_rfl) ?_
  simp only [List.take_succ_cons, List.take_zero]
  repeat (refine wpGrow_pure rfl (fun K hK => ?_); go_simp; refine hK.out _ ?_; clear hK K)
  refine wpGrow_eff _ rfl (fun wx he hcl => ?_) (fun (g6 : Nat) K hK => ?_) rfl
  · clear hcl
    have hez := he.size
    go_simp
    exact ⟨Whole.new _ _ _, (Below.refl _ _).alloc (Nat.le_refl _) _⟩
  go_simp
  refine hK.out _ ?_
  clear hK K
  repeat (refine wpGrow_pure rfl (fun K hK => ?_); go_simp; refine hK.out _ ?_; clear hK K)
  refine wpGrow_nil fun wx he hfin => ?_
  have h6 : w.heap.size ≤ g6 ∧ Whole wx g6 91 #[.pointer none, .pointer none, .pointer none, .pointer none, .pointer none, .pointer none] := hfin.out 19
  clear hfin
  have hws := he.size
  have h6l := h6.2.lt
  have HV0 := HVH.out
  have q0 := h6.2.cell 0
  have q1 := h6.2.cell 1
  have q2 := h6.2.cell 2
  have q3 := h6.2.cell 3
  have q4 := h6.2.cell 4
  have q5 := h6.2.cell 5
  simp at q0 q1 q2 q3 q4 q5
  have f0 := h6.2.frozen 0
  have f1 := h6.2.frozen 1
  have f2 := h6.2.frozen 2
  have f3 := h6.2.frozen 3
  have f4 := h6.2.frozen 4
  have f5 := h6.2.frozen 5
  have HW6 := Lib.hid h6
  have HE := Lib.hid he
  clear h6 he HV0
  simp only [List.drop_succ_cons, List.drop_zero]
  obtain ⟨W6, hW6⟩ : ∃ W, (((((wx.setCell ⟨g6, 0, none⟩ (.pointer (some ⟨gr, 4, none⟩))).setCell ⟨g6, 1, none⟩ (.pointer (some ⟨gr, 5, none⟩))).setCell ⟨g6, 2, none⟩ (.pointer (some ⟨gr, 6, none⟩))).setCell ⟨g6, 3, none⟩ (.pointer (some ⟨gr, 7, none⟩))).setCell ⟨g6, 4, none⟩ (.pointer (some ⟨gr, 8, none⟩))).setCell ⟨g6, 5, none⟩ (.pointer (some ⟨gr, 9, none⟩)) = W := ⟨_, rfl⟩
  have hw6 := (((((HW6.out.2.put_ 0 (.pointer (some ⟨gr, 4, none⟩))).put_ 1 (.pointer (some ⟨gr, 5, none⟩))).put_ 2 (.pointer (some ⟨gr, 6, none⟩))).put_ 3 (.pointer (some ⟨gr, 7, none⟩))).put_ 4 (.pointer (some ⟨gr, 8, none⟩))).put_ 5 (.pointer (some ⟨gr, 9, none⟩))
  have hb6 := (((((HE.out.setCell (p := ⟨g6, 0, none⟩) HW6.out.1 (.pointer (some ⟨gr, 4, none⟩))).setCell (p := ⟨g6, 1, none⟩) HW6.out.1 (.pointer (some ⟨gr, 5, none⟩))).setCell (p := ⟨g6, 2, none⟩) HW6.out.1 (.pointer (some ⟨gr, 6, none⟩))).setCell (p := ⟨g6, 3, none⟩) HW6.out.1 (.pointer (some ⟨gr, 7, none⟩))).setCell (p := ⟨g6, 4, none⟩) HW6.out.1 (.pointer (some ⟨gr, 8, none⟩))).setCell (p := ⟨g6, 5, none⟩) HW6.out.1 (.pointer (some ⟨gr, 9, none⟩))
  rw [hW6] at hw6 hb6
  have HWX := Lib.hid (show Whole W6 g6 91 #[.pointer (some ⟨gr, 4, none⟩), .pointer (some ⟨gr, 5, none⟩), .pointer (some ⟨gr, 6, none⟩), .pointer (some ⟨gr, 7, none⟩), .pointer (some ⟨gr, 8, none⟩), .pointer (some ⟨gr, 9, none⟩)] from hw6)
  have HBX := Lib.hid hb6
  have HG6 := Lib.hid HW6.out.1
  have HEQ := Lib.hid hW6
  clear hw6 hb6 hW6 HE HW6 hws h6l
  go_wp2_with fail
  rw [HEQ.out]
  clear q0 q1 q2 q3 q4 q5 f0 f1 f2 f3 f4 f5 HEQ
  refine wp_region_grow (fun _ => none) (by as_aux_lemma => kernel_rfl) (by as_aux_lemma => kernel_rfl) ?_
  repeat (refine wpGrow_pure rfl (fun K hK => ?_); go_simp; refine hK.out _ ?_; clear hK K)
  refine wpGrow_nil fun wy he2 hfin => ?_
  clear hfin
  have HWY := Lib.hid (HWX.out.below he2 HWX.out.lt)
  have HBY := Lib.hid (HBX.out.trans (he2.mono HBX.out.size))
  obtain ⟨T, hT⟩ : ∃ T, wy.heap.size = T := ⟨_, rfl⟩
  have HV0 := Lib.hid (HVH.out T wy HBY.out (by rw [← hT]; exact HBY.out.size) hT.symm)
  have HWT := Lib.hid (show w.heap.size ≤ T from by rw [← hT]; exact HBY.out.size)
  have HTT := Lib.hid (show T ≤ wy.heap.size from by omega)
  have HG6T := Lib.hid (show g6 < T from by rw [← hT]; exact HWY.out.lt)
  clear he2 HWX HBX HVH
  go_wp2_with fail
  clear hT
  go_loopw [8, 40] (fun _ t wr => ∃ (j : Nat) (i : Int), i = (j : Int) ∧ j ≤ 3 ∧ t = .int .i64 i ∧ Hid (V T ([1, 2, 3].take j) wr) ∧ Fix T gr gt wy wr ∧ Hid (T ≤ wr.heap.size)) (fun _ t _ => 3 - (intOf t).toNat)
  case atStart => exact ⟨0, 0, rfl, by omega, rfl, HV0, Fix.refl _ _ _ _, HTT⟩
  case round =>
    obtain ⟨j, i, hij, hj, rfl, HVJ, hfx, HTJ⟩ := hrel
    have hc : j = 0 ∨ j = 1 ∨ j = 2 ∨ j = 3 := by omega
    rcases hc with rfl | rfl | rfl | rfl
    · obtain rfl : i = 0 := by omega
      clear hij
      have HC := Lib.hid (HNH.out T ([1, 2, 3].take 0) 1 wr HWT.out HTJ.out HVJ.out (by simp) (by omega) (by omega))
      go_wp2_with fail
      refine HC.out.mono ?_
      clear HC
      rintro en w2 ⟨rfl, hv, hf⟩
      have HVN := Lib.hid hv
      have HTN := Lib.hid (Nat.le_trans HTJ.out hf.size)
      have hfn := hfx.trans hf
      clear hv hf hfx
      go_wp2_with fail
      go_roundw
      case rel => exact ⟨1, 1, rfl, by omega, by first | rfl | go_num, HVN, hfn, HTN⟩
      case measure => simp [intOf] <;> omega
    · obtain rfl : i = 1 := by omega
      clear hij
      have HC := Lib.hid (HNH.out T ([1, 2, 3].take 1) 2 wr HWT.out HTJ.out HVJ.out (by simp) (by omega) (by omega))
      go_wp2_with fail
      refine HC.out.mono ?_
      clear HC
      rintro en w2 ⟨rfl, hv, hf⟩
      have HVN := Lib.hid hv
      have HTN := Lib.hid (Nat.le_trans HTJ.out hf.size)
      have hfn := hfx.trans hf
      clear hv hf hfx
      go_wp2_with fail
      go_roundw
      case rel => exact ⟨2, 2, rfl, by omega, by first | rfl | go_num, HVN, hfn, HTN⟩
      case measure => simp [intOf] <;> omega
    · obtain rfl : i = 2 := by omega
      clear hij
      have HC := Lib.hid (HNH.out T ([1, 2, 3].take 2) 3 wr HWT.out HTJ.out HVJ.out (by simp) (by omega) (by omega))
      go_wp2_with fail
      refine HC.out.mono ?_
      clear HC
      rintro en w2 ⟨rfl, hv, hf⟩
      have HVN := Lib.hid hv
      have HTN := Lib.hid (Nat.le_trans HTJ.out hf.size)
      have hfn := hfx.trans hf
      clear hv hf hfx
      go_wp2_with fail
      go_roundw
      case rel => exact ⟨3, 3, rfl, by omega, by first | rfl | go_num, HVN, hfn, HTN⟩
      case measure => simp [intOf] <;> omega
    · obtain rfl : i = 3 := by omega
      clear hij
      have HV3 := Lib.hid (show V T ([1, 2, 3] ++ (ps.take 0).map (· + 4)) wr from HVJ.out)
      clear HVJ
      go_wp2_with fail
      go_loopw [10, 49] (fun _ t wz => ∃ j : Nat, j ≤ n ∧ t = .int .i64 j ∧ Hid (V T ([1, 2, 3] ++ (ps.take j).map (· + 4)) wz) ∧ Fix T gr gt wy wz ∧ Hid (T ≤ wz.heap.size)) (fun _ t _ => n - (intOf t).toNat)
      case atStart => exact ⟨0, by omega, rfl, HV3, hfx, HTJ⟩
      case round =>
        clear HV3 hfx HTJ
        rename World => wz
        obtain ⟨j, hj, rfl, HVJ, hfx, HTJ⟩ := hrel
        by_cases hlt : j < n
        · have hjl : j < ps.length := by rw [HPL.out]; exact hlt
          have hd : decide ((j : Int) < (n : Int)) = true := by simp; omega
          have d1 : (0 : Int) ≤ (j : Int) := by omega
          have d2 : (j : Int) < (n : Int) := by omega
          obtain ⟨ab, ao, rfl, hab, hcs⟩ := HRA.out.2 (by omega)
          obtain ⟨nb1, nb2⟩ := HAB.out (by omega) ab ao rfl
          have hp0 := hcs j (.int .u8 (ps[j] : Nat)) (by unfold smalls; rw [List.getElem?_map, List.getElem?_eq_getElem hjl]; rfl)
          have hp1 := (hfx.cell (p := ⟨ab, ao + j, none⟩) (show ab < T from Nat.lt_of_lt_of_le hab HWT.out) nb1 nb2).trans ((HBY.out.cell (p := ⟨ab, ao + j, none⟩) hab).trans hp0)
          have hw6 : Whole wz g6 91 #[.pointer (some ⟨gr, 4, none⟩), .pointer (some ⟨gr, 5, none⟩), .pointer (some ⟨gr, 6, none⟩), .pointer (some ⟨gr, 7, none⟩), .pointer (some ⟨gr, 8, none⟩), .pointer (some ⟨gr, 9, none⟩)] := (hfx.block g6 HG6T.out (by have := HG6.out; omega) (by have := HG6.out; omega)).trans HWY.out
          have HTK := Lib.hid (show ps.take (j + 1) = ps.take j ++ [ps[j]] from List.take_succ_eq_append_getElem hjl)
          have hp8 := HPS.out _ (List.getElem_mem hjl)
          obtain ⟨p, hp⟩ : ∃ p, ps[j] = p := ⟨_, rfl⟩
          rw [hp] at hp1 hp8 HTK
          have H6W := Lib.hid hw6
          have H6L := Lib.hid hw6.lt
          clear hp hp0 hcs hw6
          have hc : p < 6 ∨ p = 6 ∨ p = 7 := by omega
          rcases hc with h6 | rfl | rfl
          · have hq6 : wz.cell? ⟨g6, p, none⟩ = some (.pointer (some ⟨gr, p + 4, none⟩)) := by
              have h6c := H6W.out.cell p
              have hc : p = 0 ∨ p = 1 ∨ p = 2 ∨ p = 3 ∨ p = 4 ∨ p = 5 := by omega
              rcases hc with rfl | rfl | rfl | rfl | rfl | rfl <;> exact h6c
            have Q6 := Lib.hid hq6
            clear hq6
            have e6 : ((p : Int) == 6) = false := by simp; omega
            have e7 : ((p : Int) == 7) = false := by simp; omega
            have e8 : (0 : Int) ≤ (p : Int) := by omega
            have e9 : (p : Int) < 6 := by omega
            go_wp2_with fail
            refine wp_region_tail 7 (fun k' => List.lookup k' [(3, .fix (.pointer (some ⟨gr, p + 4, none⟩)))]) (by as_aux_lemma => kernel_rfl) (by as_aux_lemma => kernel_rfl) (by as_aux_lemma => kernel_rfl) ?_
            simp only [List.take_succ_cons, List.take_zero]
            refine wpGrow_pure rfl (fun K hK => ?_); go_simp; refine hK.out _ ?_; clear hK K
            refine wpGrow_pure rfl (fun K hK => ?_); go_simp; refine hK.out _ ?_; clear hK K
            refine wpGrow_pure rfl (fun K hK => ?_); go_simp; refine hK.out _ ?_; clear hK K
            refine wpGrow_eff _ rfl (fun wx he hcl => ?_) (fun _ K hK => ?_) rfl
            · clear hcl
              have hq := (he.cell (p := ⟨g6, p, none⟩) H6L.out).trans Q6.out
              go_simp
              exact Below.refl _ _
            go_simp
            refine hK.out _ ?_
            clear hK K
            refine wpGrow_pure rfl (fun K hK => ?_); go_simp; refine hK.out _ ?_; clear hK K
            refine wpGrow_nilm (T := TT) (v := .pointer (some ⟨gt, 0, none⟩)) rfl rfl rfl rfl rfl M3.out (fun K hK => ?_)
            go_simp
            refine hK.out _ ?_
            clear hK K
            refine wpGrow_pure rfl (fun K hK => ?_); go_simp; refine hK.out _ ?_; clear hK K
            refine wpGrow_nil fun wx he hfin => ?_
            clear hfin
            have HC := Lib.hid (HNH.out T ([1, 2, 3] ++ (ps.take j).map (· + 4)) (p + 4) wx HWT.out (Nat.le_trans HTJ.out he.size) (HXH.out _ _ _ _ HVJ.out he) (by simp; omega) (by omega) (by omega))
            have hfy := hfx.trans (Fix.of_below he HTJ.out)
            have HTX := Lib.hid (Nat.le_trans HTJ.out he.size)
            clear he
            simp only [List.drop_succ_cons, List.drop_zero]
            go_wp2_with fail
            refine HC.out.mono ?_
            clear HC
            rintro en w2 ⟨rfl, hv, hf⟩
            have HVN := Lib.hid (show V T ([1, 2, 3] ++ (ps.take (j + 1)).map (· + 4)) w2 from by
              rw [HTK.out, List.map_append, ← List.append_assoc]
              exact hv)
            have HTN := Lib.hid (Nat.le_trans HTX.out hf.size)
            have hfn := hfy.trans hf
            clear hv hf hfy hfx
            go_wp2_with fail
            go_roundw
            case rel => exact ⟨j + 1, by omega, by go_num, HVN, hfn, HTN⟩
            case measure => simp [intOf] <;> omega
          · go_wp2_with fail
            refine wp_region_tail 7 (fun k' => List.lookup k' []) (by as_aux_lemma => kernel_rfl) (by as_aux_lemma => kernel_rfl) (by as_aux_lemma => kernel_rfl) ?_
            simp only [List.take_succ_cons, List.take_zero]
            refine wpGrow_pure rfl (fun K hK => ?_); go_simp; refine hK.out _ ?_; clear hK K
            refine wpGrow_pure rfl (fun K hK => ?_); go_simp; refine hK.out _ ?_; clear hK K
            refine wpGrow_pure rfl (fun K hK => ?_); go_simp; refine hK.out _ ?_; clear hK K
            refine wpGrow_pure rfl (fun K hK => ?_); go_simp; refine hK.out _ ?_; clear hK K
            refine wpGrow_pure rfl (fun K hK => ?_); go_simp; refine hK.out _ ?_; clear hK K
            refine wpGrow_nilm (T := TT) (v := .pointer (some ⟨gt, 0, none⟩)) rfl rfl rfl rfl rfl M4.out (fun K hK => ?_)
            go_simp
            refine hK.out _ ?_
            clear hK K
            refine wpGrow_pure rfl (fun K hK => ?_); go_simp; refine hK.out _ ?_; clear hK K
            refine wpGrow_nil fun wx he hfin => ?_
            clear hfin
            have HC := Lib.hid (HTH.out T ([1, 2, 3] ++ (ps.take j).map (· + 4)) 10 wx HWT.out (Nat.le_trans HTJ.out he.size) (HXH.out _ _ _ _ HVJ.out he) (by simp; omega) (by omega))
            have hfy := hfx.trans (Fix.of_below he HTJ.out)
            have HTX := Lib.hid (Nat.le_trans HTJ.out he.size)
            clear he
            simp only [List.drop_succ_cons, List.drop_zero]
            go_wp2_with fail
            refine HC.out.mono ?_
            clear HC
            rintro en w2 ⟨rfl, hv, hf⟩
            have HVN := Lib.hid (show V T ([1, 2, 3] ++ (ps.take (j + 1)).map (· + 4)) w2 from by
              rw [HTK.out, List.map_append, ← List.append_assoc]
              exact hv)
            have HTN := Lib.hid (Nat.le_trans HTX.out hf.size)
            have hfn := hfy.trans hf
            clear hv hf hfy hfx
            go_wp2_with fail
            go_roundw
            case rel => exact ⟨j + 1, by omega, by go_num, HVN, hfn, HTN⟩
            case measure => simp [intOf] <;> omega
          · go_wp2_with fail
            refine wp_region_tail 7 (fun k' => List.lookup k' []) (by as_aux_lemma => kernel_rfl) (by as_aux_lemma => kernel_rfl) (by as_aux_lemma => kernel_rfl) ?_
            simp only [List.take_succ_cons, List.take_zero]
            refine wpGrow_pure rfl (fun K hK => ?_); go_simp; refine hK.out _ ?_; clear hK K
            refine wpGrow_pure rfl (fun K hK => ?_); go_simp; refine hK.out _ ?_; clear hK K
            refine wpGrow_pure rfl (fun K hK => ?_); go_simp; refine hK.out _ ?_; clear hK K
            refine wpGrow_pure rfl (fun K hK => ?_); go_simp; refine hK.out _ ?_; clear hK K
            refine wpGrow_pure rfl (fun K hK => ?_); go_simp; refine hK.out _ ?_; clear hK K
            refine wpGrow_nilm (T := TT) (v := .pointer (some ⟨gt, 0, none⟩)) rfl rfl rfl rfl rfl M4.out (fun K hK => ?_)
            go_simp
            refine hK.out _ ?_
            clear hK K
            refine wpGrow_pure rfl (fun K hK => ?_); go_simp; refine hK.out _ ?_; clear hK K
            refine wpGrow_nil fun wx he hfin => ?_
            clear hfin
            have HC := Lib.hid (HTH.out T ([1, 2, 3] ++ (ps.take j).map (· + 4)) 11 wx HWT.out (Nat.le_trans HTJ.out he.size) (HXH.out _ _ _ _ HVJ.out he) (by simp; omega) (by omega))
            have hfy := hfx.trans (Fix.of_below he HTJ.out)
            have HTX := Lib.hid (Nat.le_trans HTJ.out he.size)
            clear he
            simp only [List.drop_succ_cons, List.drop_zero]
            go_wp2_with fail
            refine HC.out.mono ?_
            clear HC
            rintro en w2 ⟨rfl, hv, hf⟩
            have HVN := Lib.hid (show V T ([1, 2, 3] ++ (ps.take (j + 1)).map (· + 4)) w2 from by
              rw [HTK.out, List.map_append, ← List.append_assoc]
              exact hv)
            have HTN := Lib.hid (Nat.le_trans HTX.out hf.size)
            have hfn := hfy.trans hf
            clear hv hf hfy hfx
            go_wp2_with fail
            go_roundw
            case rel => exact ⟨j + 1, by omega, by go_num, HVN, hfn, HTN⟩
            case measure => simp [intOf] <;> omega
        · obtain rfl : j = n := by omega
          have hd : decide ((j : Int) < (j : Int)) = false := by simp
          have ht : ps.take j = ps := List.take_of_length_le (by rw [HPL.out]; omega)
          have hv := HVJ.out
          rw [ht] at hv
          have HVV := Lib.hid hv
          clear hv ht
          go_wp2_with fail
          go_end0
          exact ⟨rfl, T, HWT.out, HVV.out, wy, HBY.out, hfx⟩
end Go.Proofs.Ytmobgamlednlhaa
