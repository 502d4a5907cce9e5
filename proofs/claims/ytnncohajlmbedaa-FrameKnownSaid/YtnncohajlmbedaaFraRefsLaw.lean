/-
  Frames: the law's refs, few.
-/
import Derived.Test.YtnncohajlmbedaaFraJoin
namespace Go.Proofs.Ytnncohajlmbedaa
open Go.RowKit
def rowFlat (o : Oper) (r : Operand → Value) : Array Value :=
  match o.op with
  | .buildSlice _ _ ps => ((ps.toList.map fun p => (r p.2).cells.toList).flatten).toArray
  | _ => #[]
/-- A new row of the operands' cells. -/
def GSpec.rowc (E : TypeId) (n : Nat) : GSpec :=
  ⟨Nat, 0, fun g => .slice (some ⟨g, 0, none⟩) n n, fun o r g w => Whole w g E (rowFlat o r), fun o r r' h => by
      have : rowFlat o r = rowFlat o r' := by
        unfold rowFlat
        split
        · rename_i ps he
          congr 2
          apply List.map_congr_left
          intro p hp
          rw [h _ (by rw [he]; unfold Op.operands; simp only [List.mem_toArray, List.mem_map]; exact ⟨p, hp, rfl⟩)]
        · rfl
      rw [this],
    fun _ _ _ _ _ h k => h.below k h.lt⟩
attribute [local go_sem] match_undef Oper.growAt Oper.growUpon GSpec.fix GSpec.row GSpec.wh GSpec.own GSpec.rowc rowFlat
attribute [local irreducible] wpList

set_option maxRecDepth 100000 in
set_option maxHeartbeats 4000000 in
theorem few_any (w : World) (A : Option Addr) (N cap : Nat) (fs : List Fr) (B : Nat) (hB : B ≤ w.heap.size) (h : RdFr w B A N fs) (hN : N ≤ 9223372036854775807) (r : Bool) (hr : decide ((∀ a (ha : a < fs.length), a < 11 → fs[a].2.length ≤ 400) ∧ N ≤ 10) = r) :
    Calls Try.prog 29 #[.slice A N cap] w fun en w' => en = .returned (.bool r) ∧ w = w' := by
  have HR := Lib.hid hr
  have HL := Lib.hid h.1
  have H := Lib.hid h
  clear h hr
  go_enter Try.func29, Try.ntmps29
  go_wp2_with fail
  go_loopw [3] (fun i wr => ∃ j : Nat, j ≤ N ∧ j ≤ 11 ∧ i = .int .i64 j ∧ Hid (∀ a (ha : a < fs.length), a < j → fs[a].2.length ≤ 400) ∧ wr = w) (fun i _ => N - (intOf i).toNat)
  case atStart => exact ⟨0, by omega, by omega, rfl, fun a ha h0 => absurd h0 (by omega), rfl⟩
  case round =>
    obtain ⟨j, hj, hj11, rfl, HA, rfl⟩ := hrel
    by_cases hlt : j < N ∧ j < 11
    · obtain ⟨hlt, hl11⟩ := hlt
      have hjl : j < fs.length := by have := HL.out; omega
      obtain ⟨b1, o1, A1, c1, rfl, hb1, hp1, hq1, hm1, hm2, hr1⟩ := H.out.2 j hjl
      have hd : decide ((j : Int) < (N : Int)) = true := by simp; omega
      have hd2 : decide ((j : Int) < 11) = true := by simp; omega
      have d1 : (0 : Int) ≤ (j : Int) := by omega
      have d2 : (j : Int) < (N : Int) := by omega
      obtain ⟨m, hm⟩ : ∃ m, fs[j].2.length = m := ⟨_, rfl⟩
      rw [hm] at hq1
      have HM := Lib.hid hm
      clear hm hr1 hm1
      by_cases hov : 400 < m
      · have t1 : decide ((400 : Int) < (m : Int)) = true := by simp; omega
        have HRR := Lib.hid (show false = r from by
          rw [← HR.out]
          symm
          rw [decide_eq_false_iff_not]
          intro h0
          have := h0.1 j hjl hl11
          rw [HM.out] at this
          omega)
        go_wp2_with fail
        go_ret
        exact ⟨by rw [← HRR.out]; rfl, rfl⟩
      · have t1 : decide ((400 : Int) < (m : Int)) = false := by simp; omega
        have HA2 := Lib.hid (show ∀ a (ha : a < fs.length), a < j + 1 → fs[a].2.length ≤ 400 from fun a ha h0 => by
          rcases Nat.lt_or_eq_of_le (Nat.le_of_lt_succ h0) with h1 | h1
          · exact HA.out a ha h1
          · subst h1
            rw [HM.out]
            omega)
        go_wp2_with fail
        go_roundw
        case rel => exact ⟨j + 1, by omega, by omega, by go_num, HA2, by first | rfl | trivial⟩
        case measure => simp [intOf] <;> omega
    · have HRR := Lib.hid (show decide ((N : Int) ≤ 10) = r from by
        rw [← HR.out]
        apply decide_eq_decide.2
        constructor
        · intro h0
          exact ⟨fun a ha h1 => HA.out a ha (by have := HL.out; omega), by omega⟩
        · intro h0
          have := h0.2
          omega)
      by_cases h1 : j < N
      · have hd : decide ((j : Int) < (N : Int)) = true := by simp; omega
        have hd2 : decide ((j : Int) < 11) = false := by simp; omega
        go_wp2_with fail
        go_ret
        exact ⟨by rw [← HRR.out]; rfl, rfl⟩
      · have hd : decide ((j : Int) < (N : Int)) = false := by simp; omega
        go_wp2_with fail
        go_ret
        exact ⟨by rw [← HRR.out]; rfl, rfl⟩

set_option maxRecDepth 100000 in
set_option maxHeartbeats 8000000 in
theorem refs_any (w : World) (A : Option Addr) (N cap : Nat) (fs : List Fr) (B : Nat) (hB : B ≤ w.heap.size) (h : RdFr w B A N fs) (hN : N ≤ 1000) (hf : ∀ f ∈ fs, f.2.length ≤ 140737488351232) :
    Calls Try.prog 30 #[.slice A N cap] w fun en w' => ∃ D c vs, en = .returned (.slice D N c) ∧ w'.ownsRow w.heap.size 30 2 (.slice D N c) N vs ∧ OwnFr w' w.heap.size 5 fs vs ∧ Below w.heap.size w w' := by
  have HF := Lib.hid hf
  have HB := Lib.hid hB
  have HL := Lib.hid h.1
  have H := Lib.hid h
  clear h hB hf
  go_enter Try.func30, Try.ntmps30
  go_wp2_with fail
  go_loopw [3, 4] (fun v i wr => ∃ (j : Nat) (D : Option Addr) (c : Nat) (vs : List Value), j ≤ N ∧ v = .slice D j c ∧ i = .int .i64 j ∧ Hid (wr.ownsRow w.heap.size 30 2 (.slice D j c) j vs) ∧ Hid (OwnFr wr w.heap.size 5 (fs.take j) vs) ∧ Below w.heap.size w wr) (fun _ i _ => N - (intOf i).toNat)
  case atStart => exact ⟨0, none, 0, [], by omega, rfl, rfl, World.ownsRow_nil _ _ _ _, OwnFr.nil _ _ _, Below.refl _ _⟩
  case round =>
    obtain ⟨j, D, c, vs, hj, rfl, rfl, HO, HFR, hb⟩ := hrel
    by_cases hlt : j < N
    · have hjl : j < fs.length := by have := HL.out; omega
      obtain ⟨b1, o1, A1, c1, rfl, hb1, hp1, hq1, hm1, hm2, hr1⟩ := (H.out.below (hb.mono HB.out)).2 j hjl
      have hle := HF.out fs[j] (List.getElem_mem hjl)
      obtain ⟨f, hfj⟩ : ∃ f, fs[j] = f := ⟨_, rfl⟩
      rw [hfj] at hp1 hq1 hr1 hm1 hle
      have HTK := Lib.hid (show fs.take (j + 1) = fs.take j ++ [f] from by rw [List.take_succ_eq_append_getElem hjl, hfj])
      obtain ⟨k, bd⟩ := f
      simp only at hp1 hq1 hr1 hm1 hle
      obtain ⟨m, em⟩ : ∃ m, bd.length = m := ⟨_, rfl⟩
      rw [em] at hq1 hr1 hm1 hle
      have HM := Lib.hid em
      have HB2 := Lib.hid (Nat.le_trans HB.out hb.size)
      have HSZ := Lib.hid hb.size
      have hd : decide ((j : Int) < (N : Int)) = true := by simp; omega
      have d1 : (0 : Int) ≤ (j : Int) := by omega
      have d2 : (j : Int) < (N : Int) := by omega
      have HR1 := Lib.hid hr1
      have P1 := Lib.hid hp1
      have Q1 := Lib.hid hq1
      have LB := Lib.hid (Nat.lt_of_lt_of_le hb1 HB2.out)
      clear em hfj hr1 hp1 hq1 hb1
      go_wp2_with fail
      refine wp_region_tail 14 (fun k' => List.lookup k' [(5, .fix (.int .u8 (k.toNat : Nat))), (10, .fix (.slice A1 m c1)), (11, .own w.heap.size 5 1 m (byts bd)), (13, .rowc 30 1)]) (by as_aux_lemma => kernel_rfl) (by as_aux_lemma => kernel_rfl) (by as_aux_lemma => kernel_rfl) ?_
      simp only [List.take_succ_cons, List.take_zero]
      repeat (refine wpGrow_pure rfl (fun K hK => ?_); go_simp; refine hK.out _ ?_; clear hK K)
      refine wpGrow_eff _ rfl (fun wx he hcl => ?_) (fun _ K hK => ?_) rfl
      · clear hcl
        have hq := (he.cell (p := ⟨b1, o1 + j * 2, none⟩) LB.out).trans P1.out
        go_simp
        exact Below.refl _ _
      go_simp
      refine hK.out _ ?_
      clear hK K
      repeat (refine wpGrow_pure rfl (fun K hK => ?_); go_simp; refine hK.out _ ?_; clear hK K)
      refine wpGrow_eff _ rfl (fun wx he hcl => ?_) (fun _ K hK => ?_) rfl
      · clear hcl
        have hq := (he.cell (p := ⟨b1, o1 + j * 2 + 1, none⟩) LB.out).trans Q1.out
        go_simp
        exact Below.refl _ _
      go_simp
      refine hK.out _ ?_
      clear hK K
      repeat (refine wpGrow_pure rfl (fun K hK => ?_); go_simp; refine hK.out _ ?_; clear hK K)
      refine wpGrow_eff _ rfl (fun wx he hcl => ?_) (fun ⟨D2, c2⟩ K hK => ?_) rfl
      · clear hcl
        have hcon := own_any wx A1 m c1 bd B (HR1.out.below (he.mono HB2.out)) (by omega)
        rw [HM.out] at hcon
        have hsz := Nat.le_trans HSZ.out he.size
        go_simp
        exact hcon.mono fun e w2 ⟨D, c, he2, ho, hb⟩ => ⟨D, c, he2, own_base ho hsz, hb⟩
      go_simp
      refine hK.out _ ?_
      clear hK K
      repeat (refine wpGrow_pure rfl (fun K hK => ?_); go_simp; refine hK.out _ ?_; clear hK K)
      refine wpGrow_eff _ rfl (fun wx he hcl => ?_) (fun (g24 : Nat) K hK => ?_) rfl
      · clear hcl
        go_simp
        exact ⟨Whole.new _ _ _, (Below.refl _ _).alloc (Nat.le_refl _) _⟩
      go_simp
      refine hK.out _ ?_
      clear hK K
      repeat (refine wpGrow_pure rfl (fun K hK => ?_); go_simp; refine hK.out _ ?_; clear hK K)
      refine wpGrow_nil fun wx he hfin => ?_
      have ho2 : wx.ownsRow w.heap.size 5 1 (.slice D2 m c2) m (byts bd) := hfin.out 11
      have hw4 : Whole wx g24 30 #[.int .u8 (k.toNat : Nat), .slice D2 m c2] := hfin.out 13
      clear hfin
      have hrd : Rd wx wx.heap.size 2 (some ⟨g24, 0, none⟩) 1 [.int .u8 (k.toNat : Nat), .slice D2 m c2] := ⟨rfl, fun _ => ⟨g24, 0, rfl, hw4.lt, fun a u hu => by
        rw [Nat.zero_add, hw4.cell a, ← hu]
        simp⟩⟩
      have HRD := Lib.hid hrd
      have HO2 := Lib.hid ho2
      replace HO := Lib.hid (own_ext HO.out he)
      replace HFR := Lib.hid (HFR.out.ext he)
      replace hb := hb.trans (he.mono hb.size)
      have hzz := hb.size
      clear ho2 hw4 hrd he P1 Q1 LB HSZ
      simp only [List.drop_succ_cons, List.drop_zero]
      go_wp2_with (at_builtin; first
        | (refine wpList_append_rd _ rfl (.tmp 11) (.tmp 24) _ rfl rframeV w.heap.size _ j _ rfl HO.out wx.heap.size (some ⟨g24, 0, none⟩) 1 1 _ rfl HRD.out (one_frame _ _ _ _) (by unfold maxLen; omega) (by omega) hzz ?_
           intro D3 c3 w3 ho3 hb3 hg3 _
           have HF3 := Lib.hid ((HFR.out.snoc (k := k) HM.out HO2.out).kept hg3 HO.out frame_ne.2)
           have HO3 := Lib.hid ho3
           replace hb := hb.trans hb3
           clear ho3 hb3 hg3))
      go_roundw
      case rel => exact ⟨j + 1, D3, c3, _, by omega, rfl, by go_num, HO3, by rw [HTK.out]; exact HF3, hb⟩
      case measure => simp [intOf] <;> omega
    · obtain rfl : j = N := by omega
      have hd : decide ((j : Int) < (j : Int)) = false := by simp
      have htk : fs.take j = fs := List.take_of_length_le (by have := HL.out; omega)
      have HFR2 := Lib.hid (by have := HFR.out; rw [htk] at this; exact this : OwnFr wr w.heap.size 5 fs vs)
      clear htk
      go_wp2_with fail
      go_ret
      exact ⟨D, c, vs, rfl, HO.out, HFR2.out, hb⟩

end Go.Proofs.Ytnncohajlmbedaa
