/-
  Records: VisKit, Visit, Put, Taker, Writer, Reader, Struct, Let in one text.
-/
import Derived.Test.YtmobgamlednlhaaGrowTail
import Derived.Test.YtmobgamlednlhaaGrowSep
import Derived.Test.YtmobgamlednlhaaRecBase
import Derived.BigRegion
import Derived.Test.YtmobgamlednlhaaVarMore
import Derived.Test.YtmobgamlednlhaaFraOne
import Derived.Deep.RegionLaw
import Derived.Deep.RegionWith
import Derived.Test.YtmobgamlednlhaaUndef
import Derived.Laws.Tables
namespace Go.Proofs.Ytmobgamlednlhaa
open Go.RowKit
theorem exec_nilm {P : Program} {o : Oper} {x : Operand} {ρ : Operand → Value} (hop : o.op = .nilCheck x) {nm : String} {first captured : Array Value} {T : TypeId} {v : Value}
    (hx : ρ x = .func (.method nm) first captured) (h0 : first[0]? = some (.iface T v)) (w : World) (hn : (nilAhead (P.types.size + Made.depth) T v nm).run P w = .ok (some false) w) :
    (execOp ρ o).run P w = .ok (.value (.func (.method nm) first captured)) w := by
  unfold Made.depth at hn
  unfold execOp
  simp only [hop, hx, h0, Sem.run_bind]
  simp [go_sem, hn]
theorem wpGrow_nilm {P : Program} {ops : Array Oper} {S : Nat → Option GSpec} {w0 : World} {Q : Act → World → Prop} {k : Nat} {o : Oper} {rest : List Oper} {f : Nat → World → Prop} {a : Act} (s0 : S k = none) (hg : o.guard = none)
    {x : Operand} (hop : o.op = .nilCheck x) {nm : String} {first captured : Array Value} {T : TypeId} {v : Value}
    (hx : a.eval x = .func (.method nm) first captured) (h0 : first[0]? = some (.iface T v)) (hn : ∀ w, (nilAhead (P.types.size + Made.depth) T v nm).run P w = .ok (some false) w)
    (h : ∀ K : Act → Prop, Hid (∀ a, Held (wpGrow P ops S w0 Q (k + 1) rest f a) → K a) → K (a.put o.dst (.func (.method nm) first captured))) :
    Held (wpGrow P ops S w0 Q k (o :: rest) f a) := by
  refine wpGrow_pure s0 fun K hK => ?_
  have hw : Region.wanted o (yielded ops a.tmps) = true := by simp [Region.wanted, hg]
  rw [if_pos hw]
  exact ⟨_, fun w => exec_nilm hop hx h0 w (hn w), h K hK⟩
/-- A new variable. -/
def GSpec.box (base : Nat) (E : TypeId) (cs : Array Value) : GSpec :=
  ⟨Nat, 0, fun g => .pointer (some ⟨g, 0, none⟩), fun _ _ g w => base ≤ g ∧ Whole w g E cs, fun _ _ _ _ => rfl, fun _ _ _ _ _ h k => ⟨h.1, h.2.below k h.2.lt⟩⟩
/-- Of the memory below T only two blocks have changed. -/
structure Fix (T gr gt : Nat) (w w' : World) : Prop where
  os : w'.os = w.os
  tape : w'.tape = w.tape
  output : w'.output = w.output
  size : w.heap.size ≤ w'.heap.size
  block : ∀ k, k < T → k ≠ gr → k ≠ gt → w'.heap[k]? = w.heap[k]?
theorem Fix.refl (T gr gt : Nat) (w : World) : Fix T gr gt w w := ⟨rfl, rfl, rfl, Nat.le_refl _, fun _ _ _ _ => rfl⟩
theorem Fix.trans {T gr gt : Nat} {a b c : World} (h : Fix T gr gt a b) (k : Fix T gr gt b c) : Fix T gr gt a c :=
  ⟨k.os.trans h.os, k.tape.trans h.tape, k.output.trans h.output, Nat.le_trans h.size k.size, fun q h1 h2 h3 => (k.block q h1 h2 h3).trans (h.block q h1 h2 h3)⟩
theorem Fix.of_below {T gr gt : Nat} {a b : World} (h : Below a.heap.size a b) (hT : T ≤ a.heap.size) : Fix T gr gt a b := ⟨h.os, h.tape, h.output, h.size, fun k hk _ _ => h.block k (by omega)⟩
theorem Fix.cell {T gr gt : Nat} {a b : World} (h : Fix T gr gt a b) {p : Addr} (h1 : p.block < T) (h2 : p.block ≠ gr) (h3 : p.block ≠ gt) : b.cell? p = a.cell? p := World.cell?_of_block (h.block _ h1 h2 h3)
end Go.Proofs.Ytmobgamlednlhaa
namespace Go.Proofs.Ytmobgamlednlhaa
open Go.RowKit
attribute [local go_sem] Instr.makeFunc Oper.growAt Oper.growUpon GSpec.fix GSpec.row GSpec.wh GSpec.own GSpec.box
attribute [local irreducible] wpList
set_option maxRecDepth 100000 in
set_option maxHeartbeats 16000000 in
theorem visit_any (TT : TypeId) (f1 f2 : FuncId) (m1 : ∀ (v : Value) (w : World) (s : String), IsMet 0 s → (method 231 TT v s).run Try.prog w = .ok (f1, v) w)
    (m2 : ∀ (v : Value) (w : World) (s : String), IsMet 1 s → (method 231 TT v s).run Try.prog w = .ok (f2, v) w)
    (c1 : ∀ (args : Array Value) (w : World), (callFunc f1 args).run Try.prog w = .ok (.enter f1 args) w) (c2 : ∀ (args : Array Value) (w : World), (callFunc f2 args).run Try.prog w = .ok (.enter f2 args) w)
    (V : Nat → List Nat → World → Prop) (w : World) (gr gt : Nat) (m3 : ∀ w s, IsMet 0 s → (nilAhead (Try.prog.types.size + Made.depth) TT (.pointer (some ⟨gt, 0, none⟩)) s).run Try.prog w = .ok (some false) w)
    (m4 : ∀ w s, IsMet 1 s → (nilAhead (Try.prog.types.size + Made.depth) TT (.pointer (some ⟨gt, 0, none⟩)) s).run Try.prog w = .ok (some false) w)
    (hgr : gr < w.heap.size) (hgt : gt < w.heap.size) (A : Option Addr) (n c : Nat) (ps : List Nat) (hps : ∀ p ∈ ps, p < 8) (hA : Rd w w.heap.size 1 A n (smalls ps)) (hAb : 0 < n → ∀ b o, A = some ⟨b, o, none⟩ → b ≠ gr ∧ b ≠ gt) (hn : n ≤ 8)
    (HV : ∀ T w1, Below w.heap.size w w1 → w.heap.size ≤ T → T = w1.heap.size → V T [] w1)
    (HX : ∀ T l w1 w2, V T l w1 → Below w1.heap.size w1 w2 → V T l w2)
    (HN : ∀ T l i w1, w.heap.size ≤ T → T ≤ w1.heap.size → V T l w1 → l.length ≤ 10 → 1 ≤ i → i ≤ 9 → Calls Try.prog f1 #[.pointer (some ⟨gt, 0, none⟩), .pointer (some ⟨gr, i, none⟩)] w1 fun en w2 => en = .returned (.tuple #[]) ∧ V T (l ++ [i]) w2 ∧ Fix T gr gt w1 w2)
    (HT : ∀ T l i w1, w.heap.size ≤ T → T ≤ w1.heap.size → V T l w1 → l.length ≤ 10 → i = 10 ∨ i = 11 → Calls Try.prog f2 #[.pointer (some ⟨gt, 0, none⟩), .pointer (some ⟨gr, i, none⟩)] w1 fun en w2 => en = .returned (.tuple #[]) ∧ V T (l ++ [i]) w2 ∧ Fix T gr gt w1 w2) :
    Calls Try.prog 30 #[.pointer (some ⟨gr, 0, none⟩), .iface TT (.pointer (some ⟨gt, 0, none⟩)), .slice A n c] w fun en w' => en = .returned (.tuple #[]) ∧ ∃ T, w.heap.size ≤ T ∧ V T ([1, 2, 3] ++ ps.map (· + 4)) w' ∧ ∃ w0, Below w.heap.size w w0 ∧ Fix T gr gt w0 w' := by
  have HVH := Lib.hid HV
  have HXH := Lib.hid HX
  have HNH := Lib.hid HN
  have HTH := Lib.hid HT
  have HRA := Lib.hid hA
  have HAB := Lib.hid hAb
  have HPS := Lib.hid hps
  have hpl : ps.length = n := by have := hA.1; unfold smalls at this; rw [List.length_map] at this; omega
  have HPL := Lib.hid hpl
  clear HV HX HN HT hA hAb hps hpl
  replace m1 := fun v w => m1 v w _ (IsMet.zero Try.underlying89)
  replace m2 := fun v w => m2 v w _ (IsMet.one Try.underlying89)
  replace m3 := fun w => m3 w _ (IsMet.zero Try.underlying89)
  replace m4 := fun w => m4 w _ (IsMet.one Try.underlying89)
  have M3 := Lib.hid m3
  have M4 := Lib.hid m4
  clear m3 m4
  have x0 := fun p0 p1 p2 w => (index_three p0 p1 p2 w).1
  have x1 := fun p0 p1 p2 w => (index_three p0 p1 p2 w).2.1
  have x2 := fun p0 p1 p2 w => (index_three p0 p1 p2 w).2.2
  go_enter Try.func30, Try.ntmps30
  go_wp2_with fail
  refine wp_region_tail 20 (fun k' => List.lookup k' [(19, .box w.heap.size 91 #[.pointer none, .pointer none, .pointer none, .pointer none, .pointer none, .pointer none])]) (by as_aux_lemma => kernel_rfl) (by as_aux_lemma => kernel_rfl) (by as_aux_lemma => kernel_rfl) ?_
  simp only [List.take_succ_cons, List.take_zero]
  repeat (refine wpGrow_pure rfl (fun K hK => ?_); go_simp; refine hK.out _ ?_; clear hK K)
  refine wpGrow_eff _ rfl (fun wx he hcl => ?_) (fun (g6 : Nat) K hK => ?_) rfl
  · clear hcl
    have hez := he.size
    go_simp
    exact ⟨Whole.new _ _ _, (Below.refl _ _).alloc (Nat.le_refl _) _⟩
  go_simp
  refine hK.out _ ?_
  clear hK K
  repeat (refine wpGrow_pure rfl (fun K hK => ?_); go_simp; refine hK.out _ ?_; clear hK K)
  refine wpGrow_nil fun wx he hfin => ?_
  have h6 : w.heap.size ≤ g6 ∧ Whole wx g6 91 #[.pointer none, .pointer none, .pointer none, .pointer none, .pointer none, .pointer none] := hfin.out 19
  clear hfin
  have hws := he.size
  have h6l := h6.2.lt
  have HV0 := HVH.out
  have q0 := h6.2.cell 0
  have q1 := h6.2.cell 1
  have q2 := h6.2.cell 2
  have q3 := h6.2.cell 3
  have q4 := h6.2.cell 4
  have q5 := h6.2.cell 5
  simp at q0 q1 q2 q3 q4 q5
  have f0 := h6.2.frozen 0
  have f1 := h6.2.frozen 1
  have f2 := h6.2.frozen 2
  have f3 := h6.2.frozen 3
  have f4 := h6.2.frozen 4
  have f5 := h6.2.frozen 5
  have HW6 := Lib.hid h6
  have HE := Lib.hid he
  clear h6 he HV0
  simp only [List.drop_succ_cons, List.drop_zero]
  obtain ⟨W6, hW6⟩ : ∃ W, (((((wx.setCell ⟨g6, 0, none⟩ (.pointer (some ⟨gr, 4, none⟩))).setCell ⟨g6, 1, none⟩ (.pointer (some ⟨gr, 5, none⟩))).setCell ⟨g6, 2, none⟩ (.pointer (some ⟨gr, 6, none⟩))).setCell ⟨g6, 3, none⟩ (.pointer (some ⟨gr, 7, none⟩))).setCell ⟨g6, 4, none⟩ (.pointer (some ⟨gr, 8, none⟩))).setCell ⟨g6, 5, none⟩ (.pointer (some ⟨gr, 9, none⟩)) = W := ⟨_, rfl⟩
  have hw6 := (((((HW6.out.2.put_ 0 (.pointer (some ⟨gr, 4, none⟩))).put_ 1 (.pointer (some ⟨gr, 5, none⟩))).put_ 2 (.pointer (some ⟨gr, 6, none⟩))).put_ 3 (.pointer (some ⟨gr, 7, none⟩))).put_ 4 (.pointer (some ⟨gr, 8, none⟩))).put_ 5 (.pointer (some ⟨gr, 9, none⟩))
  have hb6 := (((((HE.out.setCell (p := ⟨g6, 0, none⟩) HW6.out.1 (.pointer (some ⟨gr, 4, none⟩))).setCell (p := ⟨g6, 1, none⟩) HW6.out.1 (.pointer (some ⟨gr, 5, none⟩))).setCell (p := ⟨g6, 2, none⟩) HW6.out.1 (.pointer (some ⟨gr, 6, none⟩))).setCell (p := ⟨g6, 3, none⟩) HW6.out.1 (.pointer (some ⟨gr, 7, none⟩))).setCell (p := ⟨g6, 4, none⟩) HW6.out.1 (.pointer (some ⟨gr, 8, none⟩))).setCell (p := ⟨g6, 5, none⟩) HW6.out.1 (.pointer (some ⟨gr, 9, none⟩))
  rw [hW6] at hw6 hb6
  have HWX := Lib.hid (show Whole W6 g6 91 #[.pointer (some ⟨gr, 4, none⟩), .pointer (some ⟨gr, 5, none⟩), .pointer (some ⟨gr, 6, none⟩), .pointer (some ⟨gr, 7, none⟩), .pointer (some ⟨gr, 8, none⟩), .pointer (some ⟨gr, 9, none⟩)] from hw6)
  have HBX := Lib.hid hb6
  have HG6 := Lib.hid HW6.out.1
  have HEQ := Lib.hid hW6
  clear hw6 hb6 hW6 HE HW6 hws h6l
  go_wp2_with fail
  rw [HEQ.out]
  clear q0 q1 q2 q3 q4 q5 f0 f1 f2 f3 f4 f5 HEQ
  refine wp_region_grow (fun _ => none) (by as_aux_lemma => kernel_rfl) (by as_aux_lemma => kernel_rfl) ?_
  repeat (refine wpGrow_pure rfl (fun K hK => ?_); go_simp; refine hK.out _ ?_; clear hK K)
  refine wpGrow_nil fun wy he2 hfin => ?_
  clear hfin
  have HWY := Lib.hid (HWX.out.below he2 HWX.out.lt)
  have HBY := Lib.hid (HBX.out.trans (he2.mono HBX.out.size))
  obtain ⟨T, hT⟩ : ∃ T, wy.heap.size = T := ⟨_, rfl⟩
  have HV0 := Lib.hid (HVH.out T wy HBY.out (by rw [← hT]; exact HBY.out.size) hT.symm)
  have HWT := Lib.hid (show w.heap.size ≤ T from by rw [← hT]; exact HBY.out.size)
  have HTT := Lib.hid (show T ≤ wy.heap.size from by omega)
  have HG6T := Lib.hid (show g6 < T from by rw [← hT]; exact HWY.out.lt)
  clear he2 HWX HBX HVH
  go_wp2_with fail
  clear hT
  go_loopw [8, 40] (fun _ t wr => ∃ (j : Nat) (i : Int), i = (j : Int) ∧ j ≤ 3 ∧ t = .int .i64 i ∧ Hid (V T ([1, 2, 3].take j) wr) ∧ Fix T gr gt wy wr ∧ Hid (T ≤ wr.heap.size)) (fun _ t _ => 3 - (intOf t).toNat)
  case atStart => exact ⟨0, 0, rfl, by omega, rfl, HV0, Fix.refl _ _ _ _, HTT⟩
  case round =>
    obtain ⟨j, i, hij, hj, rfl, HVJ, hfx, HTJ⟩ := hrel
    have hc : j = 0 ∨ j = 1 ∨ j = 2 ∨ j = 3 := by omega
    rcases hc with rfl | rfl | rfl | rfl
    · obtain rfl : i = 0 := by omega
      clear hij
      have HC := Lib.hid (HNH.out T ([1, 2, 3].take 0) 1 wr HWT.out HTJ.out HVJ.out (by simp) (by omega) (by omega))
      go_wp2_with fail
      refine HC.out.mono ?_
      clear HC
      rintro en w2 ⟨rfl, hv, hf⟩
      have HVN := Lib.hid hv
      have HTN := Lib.hid (Nat.le_trans HTJ.out hf.size)
      have hfn := hfx.trans hf
      clear hv hf hfx
      go_wp2_with fail
      go_roundw
      case rel => exact ⟨1, 1, rfl, by omega, by first | rfl | go_num, HVN, hfn, HTN⟩
      case measure => simp [intOf] <;> omega
    · obtain rfl : i = 1 := by omega
      clear hij
      have HC := Lib.hid (HNH.out T ([1, 2, 3].take 1) 2 wr HWT.out HTJ.out HVJ.out (by simp) (by omega) (by omega))
      go_wp2_with fail
      refine HC.out.mono ?_
      clear HC
      rintro en w2 ⟨rfl, hv, hf⟩
      have HVN := Lib.hid hv
      have HTN := Lib.hid (Nat.le_trans HTJ.out hf.size)
      have hfn := hfx.trans hf
      clear hv hf hfx
      go_wp2_with fail
      go_roundw
      case rel => exact ⟨2, 2, rfl, by omega, by first | rfl | go_num, HVN, hfn, HTN⟩
      case measure => simp [intOf] <;> omega
    · obtain rfl : i = 2 := by omega
      clear hij
      have HC := Lib.hid (HNH.out T ([1, 2, 3].take 2) 3 wr HWT.out HTJ.out HVJ.out (by simp) (by omega) (by omega))
      go_wp2_with fail
      refine HC.out.mono ?_
      clear HC
      rintro en w2 ⟨rfl, hv, hf⟩
      have HVN := Lib.hid hv
      have HTN := Lib.hid (Nat.le_trans HTJ.out hf.size)
      have hfn := hfx.trans hf
      clear hv hf hfx
      go_wp2_with fail
      go_roundw
      case rel => exact ⟨3, 3, rfl, by omega, by first | rfl | go_num, HVN, hfn, HTN⟩
      case measure => simp [intOf] <;> omega
    · obtain rfl : i = 3 := by omega
      clear hij
      have HV3 := Lib.hid (show V T ([1, 2, 3] ++ (ps.take 0).map (· + 4)) wr from HVJ.out)
      clear HVJ
      go_wp2_with fail
      go_loopw [10, 49] (fun _ t wz => ∃ j : Nat, j ≤ n ∧ t = .int .i64 j ∧ Hid (V T ([1, 2, 3] ++ (ps.take j).map (· + 4)) wz) ∧ Fix T gr gt wy wz ∧ Hid (T ≤ wz.heap.size)) (fun _ t _ => n - (intOf t).toNat)
      case atStart => exact ⟨0, by omega, rfl, HV3, hfx, HTJ⟩
      case round =>
        clear HV3 hfx HTJ
        rename World => wz
        obtain ⟨j, hj, rfl, HVJ, hfx, HTJ⟩ := hrel
        by_cases hlt : j < n
        · have hjl : j < ps.length := by rw [HPL.out]; exact hlt
          have hd : decide ((j : Int) < (n : Int)) = true := by simp; omega
          have d1 : (0 : Int) ≤ (j : Int) := by omega
          have d2 : (j : Int) < (n : Int) := by omega
          obtain ⟨ab, ao, rfl, hab, hcs⟩ := HRA.out.2 (by omega)
          obtain ⟨nb1, nb2⟩ := HAB.out (by omega) ab ao rfl
          have hp0 := hcs j (.int .u8 (ps[j] : Nat)) (by unfold smalls; rw [List.getElem?_map, List.getElem?_eq_getElem hjl]; rfl)
          have hp1 := (hfx.cell (p := ⟨ab, ao + j, none⟩) (show ab < T from Nat.lt_of_lt_of_le hab HWT.out) nb1 nb2).trans ((HBY.out.cell (p := ⟨ab, ao + j, none⟩) hab).trans hp0)
          have hw6 : Whole wz g6 91 #[.pointer (some ⟨gr, 4, none⟩), .pointer (some ⟨gr, 5, none⟩), .pointer (some ⟨gr, 6, none⟩), .pointer (some ⟨gr, 7, none⟩), .pointer (some ⟨gr, 8, none⟩), .pointer (some ⟨gr, 9, none⟩)] := (hfx.block g6 HG6T.out (by have := HG6.out; omega) (by have := HG6.out; omega)).trans HWY.out
          have HTK := Lib.hid (show ps.take (j + 1) = ps.take j ++ [ps[j]] from List.take_succ_eq_append_getElem hjl)
          have hp8 := HPS.out _ (List.getElem_mem hjl)
          obtain ⟨p, hp⟩ : ∃ p, ps[j] = p := ⟨_, rfl⟩
          rw [hp] at hp1 hp8 HTK
          have H6W := Lib.hid hw6
          have H6L := Lib.hid hw6.lt
          clear hp hp0 hcs hw6
          have hc : p < 6 ∨ p = 6 ∨ p = 7 := by omega
          rcases hc with h6 | rfl | rfl
          · have hq6 : wz.cell? ⟨g6, p, none⟩ = some (.pointer (some ⟨gr, p + 4, none⟩)) := by
              have h6c := H6W.out.cell p
              have hc : p = 0 ∨ p = 1 ∨ p = 2 ∨ p = 3 ∨ p = 4 ∨ p = 5 := by omega
              rcases hc with rfl | rfl | rfl | rfl | rfl | rfl <;> exact h6c
            have Q6 := Lib.hid hq6
            clear hq6
            have e6 : ((p : Int) == 6) = false := by simp; omega
            have e7 : ((p : Int) == 7) = false := by simp; omega
            have e8 : (0 : Int) ≤ (p : Int) := by omega
            have e9 : (p : Int) < 6 := by omega
            go_wp2_with fail
            refine wp_region_tail 7 (fun k' => List.lookup k' [(3, .fix (.pointer (some ⟨gr, p + 4, none⟩)))]) (by as_aux_lemma => kernel_rfl) (by as_aux_lemma => kernel_rfl) (by as_aux_lemma => kernel_rfl) ?_
            simp only [List.take_succ_cons, List.take_zero]
            refine wpGrow_pure rfl (fun K hK => ?_); go_simp; refine hK.out _ ?_; clear hK K
            refine wpGrow_pure rfl (fun K hK => ?_); go_simp; refine hK.out _ ?_; clear hK K
            refine wpGrow_pure rfl (fun K hK => ?_); go_simp; refine hK.out _ ?_; clear hK K
            refine wpGrow_eff _ rfl (fun wx he hcl => ?_) (fun _ K hK => ?_) rfl
            · clear hcl
              have hq := (he.cell (p := ⟨g6, p, none⟩) H6L.out).trans Q6.out
              go_simp
              exact Below.refl _ _
            go_simp
            refine hK.out _ ?_
            clear hK K
            refine wpGrow_pure rfl (fun K hK => ?_); go_simp; refine hK.out _ ?_; clear hK K
            refine wpGrow_nilm (T := TT) (v := .pointer (some ⟨gt, 0, none⟩)) rfl rfl rfl rfl rfl M3.out (fun K hK => ?_)
            go_simp
            refine hK.out _ ?_
            clear hK K
            refine wpGrow_pure rfl (fun K hK => ?_); go_simp; refine hK.out _ ?_; clear hK K
            refine wpGrow_nil fun wx he hfin => ?_
            clear hfin
            have HC := Lib.hid (HNH.out T ([1, 2, 3] ++ (ps.take j).map (· + 4)) (p + 4) wx HWT.out (Nat.le_trans HTJ.out he.size) (HXH.out _ _ _ _ HVJ.out he) (by simp; omega) (by omega) (by omega))
            have hfy := hfx.trans (Fix.of_below he HTJ.out)
            have HTX := Lib.hid (Nat.le_trans HTJ.out he.size)
            clear he
            simp only [List.drop_succ_cons, List.drop_zero]
            go_wp2_with fail
            refine HC.out.mono ?_
            clear HC
            rintro en w2 ⟨rfl, hv, hf⟩
            have HVN := Lib.hid (show V T ([1, 2, 3] ++ (ps.take (j + 1)).map (· + 4)) w2 from by
              rw [HTK.out, List.map_append, ← List.append_assoc]
              exact hv)
            have HTN := Lib.hid (Nat.le_trans HTX.out hf.size)
            have hfn := hfy.trans hf
            clear hv hf hfy hfx
            go_wp2_with fail
            go_roundw
            case rel => exact ⟨j + 1, by omega, by go_num, HVN, hfn, HTN⟩
            case measure => simp [intOf] <;> omega
          · go_wp2_with fail
            refine wp_region_tail 7 (fun k' => List.lookup k' []) (by as_aux_lemma => kernel_rfl) (by as_aux_lemma => kernel_rfl) (by as_aux_lemma => kernel_rfl) ?_
            simp only [List.take_succ_cons, List.take_zero]
            refine wpGrow_pure rfl (fun K hK => ?_); go_simp; refine hK.out _ ?_; clear hK K
            refine wpGrow_pure rfl (fun K hK => ?_); go_simp; refine hK.out _ ?_; clear hK K
            refine wpGrow_pure rfl (fun K hK => ?_); go_simp; refine hK.out _ ?_; clear hK K
            refine wpGrow_pure rfl (fun K hK => ?_); go_simp; refine hK.out _ ?_; clear hK K
            refine wpGrow_pure rfl (fun K hK => ?_); go_simp; refine hK.out _ ?_; clear hK K
            refine wpGrow_nilm (T := TT) (v := .pointer (some ⟨gt, 0, none⟩)) rfl rfl rfl rfl rfl M4.out (fun K hK => ?_)
            go_simp
            refine hK.out _ ?_
            clear hK K
            refine wpGrow_pure rfl (fun K hK => ?_); go_simp; refine hK.out _ ?_; clear hK K
            refine wpGrow_nil fun wx he hfin => ?_
            clear hfin
            have HC := Lib.hid (HTH.out T ([1, 2, 3] ++ (ps.take j).map (· + 4)) 10 wx HWT.out (Nat.le_trans HTJ.out he.size) (HXH.out _ _ _ _ HVJ.out he) (by simp; omega) (by omega))
            have hfy := hfx.trans (Fix.of_below he HTJ.out)
            have HTX := Lib.hid (Nat.le_trans HTJ.out he.size)
            clear he
            simp only [List.drop_succ_cons, List.drop_zero]
            go_wp2_with fail
            refine HC.out.mono ?_
            clear HC
            rintro en w2 ⟨rfl, hv, hf⟩
            have HVN := Lib.hid (show V T ([1, 2, 3] ++ (ps.take (j + 1)).map (· + 4)) w2 from by
              rw [HTK.out, List.map_append, ← List.append_assoc]
              exact hv)
            have HTN := Lib.hid (Nat.le_trans HTX.out hf.size)
            have hfn := hfy.trans hf
            clear hv hf hfy hfx
            go_wp2_with fail
            go_roundw
            case rel => exact ⟨j + 1, by omega, by go_num, HVN, hfn, HTN⟩
            case measure => simp [intOf] <;> omega
          · go_wp2_with fail
            refine wp_region_tail 7 (fun k' => List.lookup k' []) (by as_aux_lemma => kernel_rfl) (by as_aux_lemma => kernel_rfl) (by as_aux_lemma => kernel_rfl) ?_
            simp only [List.take_succ_cons, List.take_zero]
            refine wpGrow_pure rfl (fun K hK => ?_); go_simp; refine hK.out _ ?_; clear hK K
            refine wpGrow_pure rfl (fun K hK => ?_); go_simp; refine hK.out _ ?_; clear hK K
            refine wpGrow_pure rfl (fun K hK => ?_); go_simp; refine hK.out _ ?_; clear hK K
            refine wpGrow_pure rfl (fun K hK => ?_); go_simp; refine hK.out _ ?_; clear hK K
            refine wpGrow_pure rfl (fun K hK => ?_); go_simp; refine hK.out _ ?_; clear hK K
            refine wpGrow_nilm (T := TT) (v := .pointer (some ⟨gt, 0, none⟩)) rfl rfl rfl rfl rfl M4.out (fun K hK => ?_)
            go_simp
            refine hK.out _ ?_
            clear hK K
            refine wpGrow_pure rfl (fun K hK => ?_); go_simp; refine hK.out _ ?_; clear hK K
            refine wpGrow_nil fun wx he hfin => ?_
            clear hfin
            have HC := Lib.hid (HTH.out T ([1, 2, 3] ++ (ps.take j).map (· + 4)) 11 wx HWT.out (Nat.le_trans HTJ.out he.size) (HXH.out _ _ _ _ HVJ.out he) (by simp; omega) (by omega))
            have hfy := hfx.trans (Fix.of_below he HTJ.out)
            have HTX := Lib.hid (Nat.le_trans HTJ.out he.size)
            clear he
            simp only [List.drop_succ_cons, List.drop_zero]
            go_wp2_with fail
            refine HC.out.mono ?_
            clear HC
            rintro en w2 ⟨rfl, hv, hf⟩
            have HVN := Lib.hid (show V T ([1, 2, 3] ++ (ps.take (j + 1)).map (· + 4)) w2 from by
              rw [HTK.out, List.map_append, ← List.append_assoc]
              exact hv)
            have HTN := Lib.hid (Nat.le_trans HTX.out hf.size)
            have hfn := hfy.trans hf
            clear hv hf hfy hfx
            go_wp2_with fail
            go_roundw
            case rel => exact ⟨j + 1, by omega, by go_num, HVN, hfn, HTN⟩
            case measure => simp [intOf] <;> omega
        · obtain rfl : j = n := by omega
          have hd : decide ((j : Int) < (j : Int)) = false := by simp
          have ht : ps.take j = ps := List.take_of_length_le (by rw [HPL.out]; omega)
          have hv := HVJ.out
          rw [ht] at hv
          have HVV := Lib.hid hv
          clear hv ht
          go_wp2_with fail
          go_end0
          exact ⟨rfl, T, HWT.out, HVV.out, wy, HBY.out, hfx⟩
end Go.Proofs.Ytmobgamlednlhaa
namespace Go.Proofs.Ytmobgamlednlhaa
open Go.RowKit
namespace Rc
/-- The number in a cell. -/
def at_ (r : Rc) (i : Nat) : Nat := if i = 1 then r.proc else if i = 2 then r.inc else if i = 3 then r.seq else if i = 4 then r.epoch else if i = 5 then r.until_ else if i = 6 then r.version else if i = 7 then r.clock else if i = 8 then r.size else r.crc
/-- The text in a cell. -/
def tat (r : Rc) (i : Nat) : ByteArray := if i = 10 then r.name else r.to
/-- A record with a cell another one. -/
def put (r : Rc) (i n : Nat) (s : ByteArray) : Rc := if i = 1 then { r with proc := n } else if i = 2 then { r with inc := n } else if i = 3 then { r with seq := n } else if i = 4 then { r with epoch := n } else if i = 5 then { r with until_ := n } else if i = 6 then { r with version := n } else if i = 7 then { r with clock := n } else if i = 8 then { r with size := n } else if i = 9 then { r with crc := n } else if i = 10 then { r with name := s } else { r with to := s }
theorem nine {i : Nat} (h1 : 1 ≤ i) (h2 : i ≤ 9) : i = 1 ∨ i = 2 ∨ i = 3 ∨ i = 4 ∨ i = 5 ∨ i = 6 ∨ i = 7 ∨ i = 8 ∨ i = 9 := by omega
theorem cells_at (r : Rc) {i : Nat} (h1 : 1 ≤ i) (h2 : i ≤ 9) : r.cells[i]? = some (.int .u64 (r.at_ i : Nat)) := by
  rcases nine h1 h2 with rfl | rfl | rfl | rfl | rfl | rfl | rfl | rfl | rfl <;> rfl
theorem cells_tat (r : Rc) {i : Nat} (h : i = 10 ∨ i = 11) : r.cells[i]? = some (.string (r.tat i)) := by
  rcases h with rfl | rfl <;> rfl
theorem cells_put (r : Rc) {i : Nat} (h1 : 1 ≤ i) (h2 : i ≤ 9) (n : Nat) (s : ByteArray) : r.cells.setIfInBounds i (.int .u64 (n : Nat)) = (r.put i n s).cells := by
  rcases nine h1 h2 with rfl | rfl | rfl | rfl | rfl | rfl | rfl | rfl | rfl <;> rfl
theorem cells_putt (r : Rc) {i : Nat} (h : i = 10 ∨ i = 11) (n : Nat) (s : ByteArray) : r.cells.setIfInBounds i (.string s) = (r.put i n s).cells := by
  rcases h with rfl | rfl <;> rfl
theorem ok_at {r : Rc} (h : r.ok) (i : Nat) : r.at_ i < 18446744073709551616 := by
  obtain ⟨_, h1, h2, h3, h4, h5, h6, h7, h8, h9, _⟩ := h
  unfold at_
  repeat' split
  all_goals assumption
theorem ok_tat {r : Rc} (h : r.ok) (i : Nat) : (r.tat i).size ≤ maxLen := by
  obtain ⟨_, _, _, _, _, _, _, _, _, _, h1, h2⟩ := h
  unfold tat
  split <;> assumption
theorem ok_put {r : Rc} (h : r.ok) (i : Nat) {n : Nat} (hn : n < 18446744073709551616) {s : ByteArray} (hs : s.size ≤ maxLen) : (r.put i n s).ok := by
  obtain ⟨h0, h1, h2, h3, h4, h5, h6, h7, h8, h9, h10, h11⟩ := h
  unfold put ok
  repeat' split
  all_goals (refine ⟨?_, ?_, ?_, ?_, ?_, ?_, ?_, ?_, ?_, ?_, ?_, ?_⟩ <;> assumption)
/-- What the taker does. -/
def takeStep (x : Rc × Bool) (i : Nat) : Rc × Bool := (x.1.put i 0 ⟨#[]⟩, if i ≤ 9 then x.2 else x.2 || decide ((x.1.tat i).size = 0) || decide (64 < (x.1.tat i).size))
def takeAll (r : Rc) (l : List Nat) : Rc × Bool := l.foldl takeStep (r, false)
theorem takeAll_snoc (r : Rc) (l : List Nat) (i : Nat) : takeAll r (l ++ [i]) = takeStep (takeAll r l) i := by unfold takeAll; rw [List.foldl_append]; rfl
/-- What the writer writes. -/
def encStep (r : Rc) (i : Nat) : List UInt8 := if i ≤ 9 then Var.put (r.at_ i) else Var.put (r.tat i).size ++ (r.tat i).data.toList
def enc (r : Rc) (l : List Nat) : List UInt8 := l.flatMap r.encStep
theorem enc_snoc (r : Rc) (l : List Nat) (i : Nat) : r.enc (l ++ [i]) = r.enc l ++ r.encStep i := by unfold enc; rw [List.flatMap_append]; simp
/-- What the reader reads. -/
def readStep (b : List UInt8) (x : Rc × Int × Nat) (i : Nat) : Rc × Int × Nat :=
  if x.2.2 = 0 then (if i ≤ 9 then (x.1.put i (Var.take b x.2.1).1 ⟨#[]⟩, (Var.take b x.2.1).2.1, (Var.take b x.2.1).2.2) else (x.1.put i 0 ⟨(Var.ttext b x.2.1).1.toArray⟩, (Var.ttext b x.2.1).2.1, (Var.ttext b x.2.1).2.2)) else x
def readAll (b : List UInt8) (r : Rc) (l : List Nat) : Rc × Int × Nat := l.foldl (readStep b) (r, 0, 0)
theorem readAll_snoc (b : List UInt8) (r : Rc) (l : List Nat) (i : Nat) : readAll b r (l ++ [i]) = readStep b (readAll b r l) i := by unfold readAll; rw [List.foldl_append]; rfl
end Rc
end Go.Proofs.Ytmobgamlednlhaa
namespace Go.Proofs.Ytmobgamlednlhaa
open Go.RowKit
theorem Fix.mono {T T' gr gt : Nat} {a b : World} (h : Fix T gr gt a b) (hT : T' ≤ T) : Fix T' gr gt a b := ⟨h.os, h.tape, h.output, h.size, fun k hk h1 h2 => h.block k (by omega) h1 h2⟩
theorem Fix.below {T H gr gt : Nat} {a b : World} (h : Fix T gr gt a b) (hT : H ≤ T) (h1 : H ≤ gr) (h2 : H ≤ gt) : Below H a b := ⟨h.os, h.tape, h.output, h.size, fun k hk => h.block k (by omega) (by omega) (by omega)⟩
theorem Fix.set {T gr gt : Nat} (w : World) {p : Addr} (h : p.block = gr ∨ p.block = gt) (u : Value) : Fix T gr gt w (w.setCell p u) :=
  have hb := (Below.refl 0 w).setCell (p := p) (Nat.zero_le _) u
  ⟨hb.os, hb.tape, hb.output, hb.size, fun k _ h1 h2 => Below.heap_setCell w p u k (by rcases h with h | h <;> rw [h] <;> assumption)⟩
theorem bytes_nil {s : ByteArray} : s.toList = [] ↔ s.size = 0 := by
  rw [ByteArray.toList_eq, ← List.length_eq_zero_iff, Array.length_toList]
  exact Iff.rfl
theorem taker_number_any (w : World) (a : Option Addr) (gr i n : Nat) (T : TypeId) (cs : Array Value) (h : Whole w gr T cs) (hc : cs[i]? = some (.int .u64 (n : Nat))) :
    Calls Try.prog 76 #[.pointer a, .pointer (some ⟨gr, i, none⟩)] w fun en w' => en = .returned (.tuple #[]) ∧ w' = w.setCell ⟨gr, i, none⟩ (.int .u64 (0 : Nat)) := by
  have q := (h.cell i).trans hc
  have f := h.frozen i
  clear h hc
  go_enter Try.func76, Try.ntmps76
  go_wp2_with fail
  go_end0
  exact ⟨rfl, rfl⟩
set_option maxHeartbeats 4000000 in
theorem taker_text_any (w : World) (gr gt i : Nat) (T T' : TypeId) (cs : Array Value) (h : Whole w gr T cs) (s : ByteArray) (hc : cs[i]? = some (.string s)) (hs : s.size ≤ maxLen) (b : Bool) (ht : Whole w gt T' #[.bool b]) (hne : gr ≠ gt) :
    Calls Try.prog 77 #[.pointer (some ⟨gt, 0, none⟩), .pointer (some ⟨gr, i, none⟩)] w fun en w' => en = .returned (.tuple #[]) ∧
      w' = (w.setCell ⟨gt, 0, none⟩ (.bool (b || decide (s.size = 0) || decide (64 < s.size)))).setCell ⟨gr, i, none⟩ (.string ⟨#[]⟩) := by
  have q := (h.cell i).trans hc
  have f := h.frozen i
  have q1 := ht.cell 0
  simp at q1
  have f1 := ht.frozen 0
  unfold maxLen at hs
  have HNE := Lib.hid hne
  have q2 := ((h.far (p := ⟨gt, 0, none⟩) hne (.bool (b || decide (s.size = 0) || decide (64 < s.size)))).cell i).trans hc
  have f2 := (h.far (p := ⟨gt, 0, none⟩) hne (.bool (b || decide (s.size = 0) || decide (64 < s.size)))).frozen i
  clear h hc ht hne
  cases b with
  | true =>
    simp only [Bool.true_or] at q2 f2 ⊢
    go_enter Try.func77, Try.ntmps77
    go_wp2_with fail
    go_end0
    exact ⟨rfl, rfl⟩
  | false =>
    by_cases h0 : s.size = 0
    · have he : s.toList = [] := bytes_nil.2 h0
      rw [decide_eq_true h0] at q2 f2 ⊢
      simp only [Bool.false_or, Bool.true_or] at q2 f2 ⊢
      clear h0
      go_enter Try.func77, Try.ntmps77
      go_wp2_with fail
      go_end0
      exact ⟨rfl, rfl⟩
    · have he : s.toList.isEmpty = false := by simpa using fun e => h0 (bytes_nil.1 e)
      rw [decide_eq_false h0] at q2 f2 ⊢
      simp only [Bool.false_or] at q2 f2 ⊢
      clear h0
      by_cases h64 : 64 < s.size
      · have hd : decide ((64 : Int) < (s.size : Int)) = true := by simp; omega
        rw [decide_eq_true h64] at q2 f2 ⊢
        clear h64
        go_enter Try.func77, Try.ntmps77
        go_wp2_with fail
        go_end0
        exact ⟨rfl, rfl⟩
      · have hd : decide ((64 : Int) < (s.size : Int)) = false := by simp; omega
        rw [decide_eq_false h64] at q2 f2 ⊢
        clear h64
        go_enter Try.func77, Try.ntmps77
        go_wp2_with fail
        go_end0
        exact ⟨rfl, rfl⟩
theorem taker_ahead (a : Addr) (w : World) : (∀ s, IsMet 0 s → (nilAhead (Try.prog.types.size + Made.depth) 66 (.pointer (some a)) s).run Try.prog w = .ok (some false) w) ∧ (∀ s, IsMet 1 s → (nilAhead (Try.prog.types.size + Made.depth) 66 (.pointer (some a)) s).run Try.prog w = .ok (some false) w) :=
  ⟨IsMet.all (IsMet.zero Try.underlying89) (by kernel_rfl), IsMet.all (IsMet.one Try.underlying89) (by kernel_rfl)⟩
theorem taker_method (v : Value) (w : World) : (∀ s, IsMet 0 s → (method 231 66 v s).run Try.prog w = .ok (76, v) w) ∧ (∀ s, IsMet 1 s → (method 231 66 v s).run Try.prog w = .ok (77, v) w) :=
  ⟨IsMet.all (IsMet.zero Try.underlying89) (by kernel_rfl), IsMet.all (IsMet.one Try.underlying89) (by kernel_rfl)⟩
theorem taker_enter (args : Array Value) (w : World) : (callFunc 76 args).run Try.prog w = .ok (.enter 76 args) w ∧ (callFunc 77 args).run Try.prog w = .ok (.enter 77 args) w := by
  constructor <;> kernel_rfl
theorem Rc.takeAll_ok {r : Rc} (h : r.ok) (l : List Nat) : (r.takeAll l).1.ok := by
  suffices H : ∀ (l : List Nat) (x : Rc × Bool), x.1.ok → (l.foldl Rc.takeStep x).1.ok from H l _ h
  intro l
  induction l with
  | nil => exact fun _ h => h
  | cons i l ih => exact fun x hx => ih _ (Rc.ok_put hx i (by omega) (by unfold maxLen; exact Nat.zero_le _))
/-- What is kept. -/
def TakeV (gr gt : Nat) (T T' : TypeId) (r : Rc) (_ : Nat) (l : List Nat) (w : World) : Prop := Whole w gr T (r.takeAll l).1.cells ∧ Whole w gt T' #[.bool (r.takeAll l).2]
theorem visit_taker (w : World) (gr gt : Nat) (T T' : TypeId) (r : Rc) (hok : r.ok) (hr : Whole w gr T r.cells) (ht : Whole w gt T' #[.bool false]) (hne : gr ≠ gt) (A : Option Addr) (n c : Nat) (ps : List Nat) (hps : ∀ p ∈ ps, p < 8)
    (hA : Rd w w.heap.size 1 A n (smalls ps)) (hAb : 0 < n → ∀ b o, A = some ⟨b, o, none⟩ → b ≠ gr ∧ b ≠ gt) (hn : n ≤ 8) :
    Calls Try.prog 30 #[.pointer (some ⟨gr, 0, none⟩), .iface 66 (.pointer (some ⟨gt, 0, none⟩)), .slice A n c] w fun en w' => en = .returned (.tuple #[]) ∧
      Whole w' gr T (r.takeAll ([1, 2, 3] ++ ps.map (· + 4))).1.cells ∧ Whole w' gt T' #[.bool (r.takeAll ([1, 2, 3] ++ ps.map (· + 4))).2] ∧ Fix w.heap.size gr gt w w' := by
  refine (visit_any 66 76 77 (fun v w => (taker_method v w).1) (fun v w => (taker_method v w).2) (fun a w => (taker_enter a w).1) (fun a w => (taker_enter a w).2) (TakeV gr gt T T' r) w gr gt
    (fun w => (taker_ahead _ w).1) (fun w => (taker_ahead _ w).2) hr.lt ht.lt A n c ps hps hA hAb hn (fun Tm w1 hb _ _ => ⟨hr.below hb hr.lt, ht.below hb ht.lt⟩) (fun Tm l w1 w2 hv hb => ⟨hv.1.below hb hv.1.lt, hv.2.below hb hv.2.lt⟩) ?_ ?_).mono ?_
  · intro Tm l i w1 _ _ hv _ h1 h2
    refine (taker_number_any w1 _ gr i _ T _ hv.1 (Rc.cells_at _ h1 h2)).mono ?_
    rintro en w2 ⟨rfl, rfl⟩
    refine ⟨rfl, ⟨?_, ?_⟩, Fix.set w1 (p := ⟨gr, i, none⟩) (.inl rfl) _⟩
    · have h := hv.1.put_ i (.int .u64 (0 : Nat))
      rw [Rc.cells_put _ h1 h2 0 ⟨#[]⟩] at h
      rw [Rc.takeAll_snoc]
      exact h
    · have h := hv.2.far (p := ⟨gr, i, none⟩) (Ne.symm hne) (.int .u64 (0 : Nat))
      rw [Rc.takeAll_snoc]
      unfold Rc.takeStep
      rw [if_pos h2]
      exact h
  · intro Tm l i w1 _ _ hv _ h1
    refine (taker_text_any w1 gr gt i T T' _ hv.1 _ (Rc.cells_tat _ h1) (Rc.ok_tat (Rc.takeAll_ok hok l) i) _ hv.2 hne).mono ?_
    rintro en w2 ⟨rfl, rfl⟩
    refine ⟨rfl, ⟨?_, ?_⟩, (Fix.set w1 (p := ⟨gt, 0, none⟩) (.inr rfl) _).trans (Fix.set _ (p := ⟨gr, i, none⟩) (.inl rfl) _)⟩
    · have h := (hv.1.far (p := ⟨gt, 0, none⟩) hne (.bool ((r.takeAll l).2 || decide (((r.takeAll l).1.tat i).size = 0) || decide (64 < ((r.takeAll l).1.tat i).size)))).put_ i (.string ⟨#[]⟩)
      rw [Rc.cells_putt _ h1 0 ⟨#[]⟩] at h
      rw [Rc.takeAll_snoc]
      exact h
    · have h := (hv.2.put_ 0 (.bool ((r.takeAll l).2 || decide (((r.takeAll l).1.tat i).size = 0) || decide (64 < ((r.takeAll l).1.tat i).size)))).far (p := ⟨gr, i, none⟩) (Ne.symm hne) (.string ⟨#[]⟩)
      rw [Rc.takeAll_snoc]
      unfold Rc.takeStep
      rw [if_neg (by omega)]
      exact h
  · rintro en w' ⟨he, Tm, hT, hv, w0, hb, hf⟩
    exact ⟨he, hv.1, hv.2, (Fix.of_below hb (Nat.le_refl _)).trans (hf.mono hT)⟩
end Go.Proofs.Ytmobgamlednlhaa
namespace Go.Proofs.Ytmobgamlednlhaa
open Go.RowKit
theorem size_list (s : ByteArray) : s.data.toList.length = s.size := by rw [Array.length_toList]; rfl
theorem Fix.of_belowT {T gr gt : Nat} {a b : World} (h : Below T a b) : Fix T gr gt a b := ⟨h.os, h.tape, h.output, h.size, fun k hk _ _ => h.block k hk⟩
set_option maxHeartbeats 4000000 in
theorem writer_number_any (w : World) (gr gt i : Nat) (k : Nat) (TR TW : TypeId) (cs : Array Value) (hr : Whole w gr TR cs) (hc : cs[i]? = some (.int .u64 (k : Nat))) (hk : k < 18446744073709551616) (T : Nat) (A : Option Addr) (c : Nat) (l : List UInt8) (L : Nat) (hL : l.length = L) (hl : L ≤ 10000)
    (ht : Whole w gt TW #[.slice A L c]) (ho : w.ownsRow T 5 1 (.slice A L c) L (byts l)) (hT : T ≤ w.heap.size) (h1 : gt < T) :
    Calls Try.prog 73 #[.pointer (some ⟨gt, 0, none⟩), .pointer (some ⟨gr, i, none⟩)] w fun en w' => en = .returned (.tuple #[]) ∧
      ∃ A' c', Whole w' gt TW #[.slice A' (l ++ Var.put k).length c'] ∧ w'.ownsRow T 5 1 (.slice A' (l ++ Var.put k).length c') (l ++ Var.put k).length (byts (l ++ Var.put k)) ∧ Fix T gt gt w w' := by
  have q := (hr.cell i).trans hc
  have q1 := ht.cell 0
  simp at q1
  have HT := Lib.hid hT
  have HO := Lib.hid (show w.drew.ownsRow T 5 1 (.slice A L c) L (byts l) from ho)
  have HW := Lib.hid (show Whole w.drew gt TW #[.slice A L c] from ht)
  have HG := Lib.hid h1
  have HGS := Lib.hid (show gt < w.drew.heap.size from Nat.lt_of_lt_of_le h1 hT)
  have HTD := Lib.hid (show T ≤ w.drew.heap.size from hT)
  have HL := Lib.hid hL
  have HPL := Lib.hid (show (Var.put k).length ≤ 10 from (Var.put_length k).2)
  clear hr hc ht ho hT hL
  go_enter Try.func73, Try.ntmps73
  go_wp2_with fail
  go_region_law (first | (go_simp; go_at_call 52; refine (put_any _ _ hk).mono ?_; rintro en w2 ⟨D, c2, rfl, ho2, hb2⟩; have HB2 := Lib.hid hb2; have HO2 := Lib.hid ho2; have q2 := (hb2.cell (p := ⟨gt, 0, none⟩) HGS.out).trans q1; clear ho2 hb2) | (refine step_append_rd _ rfl (.tmp 8) (.tmp 12) 27 rfl bytesV T (.slice A L c) L (byts l) rfl (own_ext HO.out HB2.out) _ D _ c2 _ rfl (Rd.of_own HO2.out) (byts_one _) (by have := HPL.out; unfold maxLen; omega) (by have := HPL.out; omega) (Nat.le_trans HTD.out HB2.out.size) ?_; intro A3 c3 w3 ho3 hb3 hg3 hd3; have q3 := (hb3.cell (p := ⟨gt, 0, none⟩) HG.out).trans q2; have f3 := ((HW.out.below HB2.out HGS.out).below hb3 HG.out).frozen 0; have HB3 := Lib.hid hb3; have HO3 := Lib.hid ho3; clear ho3 hb3 hg3 hd3))
  all_goals
    go_wp2_with fail
    go_end0
    refine ⟨rfl, A3, c3, ?_, ?_, ?_⟩
    · rw [List.length_append, HL.out]
      exact ((HW.out.below HB2.out HGS.out).below HB3.out HG.out).put_ 0 _
    · rw [List.length_append, HL.out, byts_append]
      exact own_far HO3.out (p := ⟨gt, 0, none⟩) (fun bb hh => by have h3 := (own_lt HO3.out bb hh).1; have h4 := HG.out; show bb ≠ gt; omega) _
    · exact (Fix.of_belowT (gr := gt) (gt := gt) (((Below.refl T w).drew.trans (HB2.out.mono HTD.out)).trans HB3.out)).trans (Fix.set w3 (p := ⟨gt, 0, none⟩) (.inr rfl) _)
set_option maxHeartbeats 4000000 in
theorem writer_text_any (w : World) (gr gt i : Nat) (s : ByteArray) (TR TW : TypeId) (cs : Array Value) (hr : Whole w gr TR cs) (hc : cs[i]? = some (.string s)) (hk : s.size ≤ 100) (T : Nat) (A : Option Addr) (c : Nat) (l : List UInt8) (L : Nat) (hL : l.length = L) (hl : L ≤ 10000)
    (ht : Whole w gt TW #[.slice A L c]) (ho : w.ownsRow T 5 1 (.slice A L c) L (byts l)) (hT : T ≤ w.heap.size) (h1 : gt < T) :
    Calls Try.prog 74 #[.pointer (some ⟨gt, 0, none⟩), .pointer (some ⟨gr, i, none⟩)] w fun en w' => en = .returned (.tuple #[]) ∧
      ∃ A' c', Whole w' gt TW #[.slice A' (l ++ (Var.put s.size ++ s.data.toList)).length c'] ∧ w'.ownsRow T 5 1 (.slice A' (l ++ (Var.put s.size ++ s.data.toList)).length c') (l ++ (Var.put s.size ++ s.data.toList)).length (byts (l ++ (Var.put s.size ++ s.data.toList))) ∧ Fix T gt gt w w' := by
  have hcall : ∀ w : World, Calls Try.prog 75 #[.string s] w (Fresh w.heap.size 5 1 (Var.put s.size ++ s.data.toList).length (byts (Var.put s.size ++ s.data.toList)) w) := fun w => text_any w s (Nat.le_trans hk (by decide))
  have hpl : (Var.put s.size ++ s.data.toList).length ≤ 110 := by have h := (Var.put_length s.size).2; rw [List.length_append, size_list]; omega
  obtain ⟨E, hE⟩ : ∃ E, Var.put s.size ++ s.data.toList = E := ⟨_, rfl⟩
  rw [hE] at hcall hpl ⊢
  have HC := Lib.hid hcall
  have HPL := Lib.hid hpl
  clear hE hcall hpl
  have q := (hr.cell i).trans hc
  have q1 := ht.cell 0
  simp at q1
  have HT := Lib.hid hT
  have HO := Lib.hid (show w.drew.ownsRow T 5 1 (.slice A L c) L (byts l) from ho)
  have HW := Lib.hid (show Whole w.drew gt TW #[.slice A L c] from ht)
  have HG := Lib.hid h1
  have HGS := Lib.hid (show gt < w.drew.heap.size from Nat.lt_of_lt_of_le h1 hT)
  have HTD := Lib.hid (show T ≤ w.drew.heap.size from hT)
  have HL := Lib.hid hL
  clear hr hc ht ho hT hL
  go_enter Try.func74, Try.ntmps74
  go_wp2_with fail
  go_region_law (first | (go_simp; go_at_call 75; refine (HC.out _).mono ?_; rintro en w2 ⟨D, c2, rfl, ho2, hb2⟩; have HB2 := Lib.hid hb2; have HO2 := Lib.hid ho2; have q2 := (hb2.cell (p := ⟨gt, 0, none⟩) HGS.out).trans q1; clear ho2 hb2) | (refine step_append_rd _ rfl (.tmp 8) (.tmp 12) 27 rfl bytesV T (.slice A L c) L (byts l) rfl (own_ext HO.out HB2.out) _ D _ c2 _ rfl (Rd.of_own HO2.out) (byts_one _) (by have := HPL.out; unfold maxLen; omega) (by have := HPL.out; omega) (Nat.le_trans HTD.out HB2.out.size) ?_; intro A3 c3 w3 ho3 hb3 hg3 hd3; have q3 := (hb3.cell (p := ⟨gt, 0, none⟩) HG.out).trans q2; have f3 := ((HW.out.below HB2.out HGS.out).below hb3 HG.out).frozen 0; have HB3 := Lib.hid hb3; have HO3 := Lib.hid ho3; clear ho3 hb3 hg3 hd3))
  all_goals
    go_wp2_with fail
    go_end0
    refine ⟨rfl, A3, c3, ?_, ?_, ?_⟩
    · rw [List.length_append, HL.out]
      exact ((HW.out.below HB2.out HGS.out).below HB3.out HG.out).put_ 0 _
    · rw [List.length_append, HL.out, byts_append]
      exact own_far HO3.out (p := ⟨gt, 0, none⟩) (fun bb hh => by have h3 := (own_lt HO3.out bb hh).1; have h4 := HG.out; show bb ≠ gt; omega) _
    · exact (Fix.of_belowT (gr := gt) (gt := gt) (((Below.refl T w).drew.trans (HB2.out.mono HTD.out)).trans HB3.out)).trans (Fix.set w3 (p := ⟨gt, 0, none⟩) (.inr rfl) _)
theorem writer_ahead (a : Addr) (w : World) : (∀ s, IsMet 0 s → (nilAhead (Try.prog.types.size + Made.depth) 56 (.pointer (some a)) s).run Try.prog w = .ok (some false) w) ∧ (∀ s, IsMet 1 s → (nilAhead (Try.prog.types.size + Made.depth) 56 (.pointer (some a)) s).run Try.prog w = .ok (some false) w) :=
  ⟨IsMet.all (IsMet.zero Try.underlying89) (by kernel_rfl), IsMet.all (IsMet.one Try.underlying89) (by kernel_rfl)⟩
theorem writer_method (v : Value) (w : World) : (∀ s, IsMet 0 s → (method 231 56 v s).run Try.prog w = .ok (73, v) w) ∧ (∀ s, IsMet 1 s → (method 231 56 v s).run Try.prog w = .ok (74, v) w) :=
  ⟨IsMet.all (IsMet.zero Try.underlying89) (by kernel_rfl), IsMet.all (IsMet.one Try.underlying89) (by kernel_rfl)⟩
theorem writer_enter (args : Array Value) (w : World) : (callFunc 73 args).run Try.prog w = .ok (.enter 73 args) w ∧ (callFunc 74 args).run Try.prog w = .ok (.enter 74 args) w := by
  constructor <;> kernel_rfl
/-- What is kept. -/
def WriteV (gr gt : Nat) (TR TW : TypeId) (r : Rc) (T : Nat) (l : List Nat) (w : World) : Prop :=
  gt < T ∧ gr < T ∧ Whole w gr TR r.cells ∧ ∃ A c, Whole w gt TW #[.slice A (r.enc l).length c] ∧ w.ownsRow T 5 1 (.slice A (r.enc l).length c) (r.enc l).length (byts (r.enc l))
theorem Rc.encStep_length (r : Rc) (i : Nat) (h : (r.tat i).size ≤ 100) : (r.encStep i).length ≤ 110 := by
  unfold Rc.encStep
  have h1 := (Var.put_length (r.at_ i)).2
  have h2 := (Var.put_length (r.tat i).size).2
  split
  · omega
  · rw [List.length_append, size_list]; omega
theorem Rc.enc_length (r : Rc) (h : ∀ i, (r.tat i).size ≤ 100) : ∀ l : List Nat, (r.enc l).length ≤ 110 * l.length
  | [] => by simp [Rc.enc]
  | i :: l => by
    have h1 := Rc.enc_length r h l
    have h2 := r.encStep_length i (h i)
    unfold Rc.enc at *
    rw [List.flatMap_cons, List.length_append, List.length_cons]
    omega
theorem visit_writer (w : World) (gr gt : Nat) (TR TW : TypeId) (r : Rc) (hok : r.ok) (hsz : ∀ i, (r.tat i).size ≤ 100) (hr : Whole w gr TR r.cells) (ht : Whole w gt TW #[.slice none 0 0]) (hne : gr ≠ gt) (A : Option Addr) (n c : Nat) (ps : List Nat) (hps : ∀ p ∈ ps, p < 8)
    (hA : Rd w w.heap.size 1 A n (smalls ps)) (hAb : 0 < n → ∀ b o, A = some ⟨b, o, none⟩ → b ≠ gr ∧ b ≠ gt) (hn : n ≤ 8) :
    Calls Try.prog 30 #[.pointer (some ⟨gr, 0, none⟩), .iface 56 (.pointer (some ⟨gt, 0, none⟩)), .slice A n c] w fun en w' => en = .returned (.tuple #[]) ∧
      Whole w' gr TR r.cells ∧ (∃ A c, Whole w' gt TW #[.slice A (r.enc ([1, 2, 3] ++ ps.map (· + 4))).length c] ∧ w'.ownsRow w.heap.size 5 1 (.slice A (r.enc ([1, 2, 3] ++ ps.map (· + 4))).length c) (r.enc ([1, 2, 3] ++ ps.map (· + 4))).length (byts (r.enc ([1, 2, 3] ++ ps.map (· + 4))))) ∧ Fix w.heap.size gr gt w w' := by
  refine (visit_any 56 73 74 (fun v w => (writer_method v w).1) (fun v w => (writer_method v w).2) (fun a w => (writer_enter a w).1) (fun a w => (writer_enter a w).2) (WriteV gr gt TR TW r) w gr gt
    (fun w => (writer_ahead _ w).1) (fun w => (writer_ahead _ w).2) hr.lt ht.lt A n c ps hps hA hAb hn (fun Tm w1 hb hT _ => ⟨Nat.lt_of_lt_of_le ht.lt hT, Nat.lt_of_lt_of_le hr.lt hT, hr.below hb hr.lt, none, 0, ht.below hb ht.lt, w1.ownsRow_nil _ _ _⟩) (fun Tm l w1 w2 hv hb => by
      obtain ⟨h1, h0, h2, A, c, h3, h4⟩ := hv
      exact ⟨h1, h0, h2.below hb h2.lt, A, c, h3.below hb h3.lt, own_ext h4 hb⟩) ?_ ?_).mono ?_
  · intro Tm l i w1 _ hTs hv hl h1 h2
    obtain ⟨h3, h0, h4, A, c, h5, h6⟩ := hv
    have hle := Rc.enc_length r hsz l
    refine (writer_number_any w1 gr gt i _ TR TW _ h4 (Rc.cells_at _ h1 h2) (Rc.ok_at hok i) Tm A c (r.enc l) _ rfl (by omega) h5 h6 hTs h3).mono ?_
    rintro en w2 ⟨rfl, A', c', h7, h8, h9⟩
    have he : r.enc (l ++ [i]) = r.enc l ++ Var.put (r.at_ i) := by rw [Rc.enc_snoc]; unfold Rc.encStep; rw [if_pos h2]
    exact ⟨rfl, ⟨h3, h0, (h9.block gr h0 hne hne).trans h4, A', c', by rw [he]; exact h7, by rw [he]; exact h8⟩, ⟨h9.os, h9.tape, h9.output, h9.size, fun k hk _ h' => h9.block k hk h' h'⟩⟩
  · intro Tm l i w1 _ hTs hv hl h1
    obtain ⟨h3, h0, h4, A, c, h5, h6⟩ := hv
    have hle := Rc.enc_length r hsz l
    refine (writer_text_any w1 gr gt i _ TR TW _ h4 (Rc.cells_tat _ h1) (hsz i) Tm A c (r.enc l) _ rfl (by omega) h5 h6 hTs h3).mono ?_
    rintro en w2 ⟨rfl, A', c', h7, h8, h9⟩
    have he : r.enc (l ++ [i]) = r.enc l ++ (Var.put (r.tat i).size ++ (r.tat i).data.toList) := by rw [Rc.enc_snoc]; unfold Rc.encStep; rw [if_neg (by omega)]
    exact ⟨rfl, ⟨h3, h0, (h9.block gr h0 hne hne).trans h4, A', c', by rw [he]; exact h7, by rw [he]; exact h8⟩, ⟨h9.os, h9.tape, h9.output, h9.size, fun k hk _ h' => h9.block k hk h' h'⟩⟩
  · rintro en w' ⟨he, Tm, hT, ⟨_, _, hv1, A', c', hv2, hv3⟩, w0, hb, hf⟩
    exact ⟨he, hv1, ⟨A', c', hv2, own_base hv3 hT⟩, (Fix.of_below hb (Nat.le_refl _)).trans (hf.mono hT)⟩
end Go.Proofs.Ytmobgamlednlhaa
namespace Go.Proofs.Ytmobgamlednlhaa
open Go.RowKit
set_option maxHeartbeats 8000000 in
theorem reader_number_any (w : World) (gr gt i : Nat) (k0 : Nat) (TR TW : TypeId) (cs : Array Value) (hr : Whole w gr TR cs) (hc : cs[i]? = some (.int .u64 (k0 : Nat))) (A : Option Addr) (n cap : Nat) (b : List UInt8) (B : Nat) (h : Rd w B 1 A n (byts b)) (hcap : n ≤ cap) (hm : n ≤ 100000000) (p : Int) (hp1 : 0 ≤ p) (hp2 : p ≤ 9223372036854775807)
    (ht : Whole w gt TW #[.slice A n cap, .int .i64 p, .int .i64 (0 : Nat)]) (hne : gr ≠ gt) (T : Nat) :
    Calls Try.prog 78 #[.pointer (some ⟨gt, 0, none⟩), .pointer (some ⟨gr, i, none⟩)] w fun en w' => en = .returned (.tuple #[]) ∧
      Whole w' gr TR (cs.setIfInBounds i (.int .u64 ((Var.take b p).1 : Nat))) ∧ Whole w' gt TW #[.slice A n cap, .int .i64 (Var.take b p).2.1, .int .i64 ((Var.take b p).2.2 : Nat)] ∧ Fix T gr gt w w' := by
  have hcall : ∀ w' : World, Rd w' B 1 A n (byts b) → Calls Try.prog 48 #[.slice A n cap, .int .i64 p] w' fun e w'' => e = .returned (.tuple #[.int .u64 ((Var.take b p).1 : Nat), .int .i64 (Var.take b p).2.1, .int .i64 ((Var.take b p).2.2 : Nat)]) ∧ w' = w'' := fun w' h => take_any w' A n cap b B h hcap hm p (by omega) hp2
  obtain ⟨x1, hx1⟩ : ∃ x, (Var.take b p).1 = x := ⟨_, rfl⟩
  obtain ⟨x2, hx2⟩ : ∃ x, (Var.take b p).2.1 = x := ⟨_, rfl⟩
  obtain ⟨x3, hx3⟩ : ∃ x, (Var.take b p).2.2 = x := ⟨_, rfl⟩
  rw [hx1, hx2, hx3] at hcall ⊢
  have HC := Lib.hid (hcall w.drew h)
  clear hx1 hx2 hx3 hcall h
  have q0 := ht.cell 0
  have q1 := ht.cell 1
  have q2 := ht.cell 2
  simp at q0 q1 q2
  have q := (hr.cell i).trans hc
  have f := hr.frozen i
  have k1 := hr.put_ i (Value.int .u64 (x1 : Nat))
  have t1 := ht.far (p := ⟨gr, i, none⟩) (Ne.symm hne) (Value.int .u64 (x1 : Nat))
  have q4 := t1.cell 1
  simp at q4
  have f4 := t1.frozen 1
  have t2 := t1.put_ 1 (Value.int .i64 x2)
  have k2 := k1.far (p := ⟨gt, 1, none⟩) hne (Value.int .i64 x2)
  have q5 := t2.cell 2
  simp at q5
  have f5 := t2.frozen 2
  have t3 := t2.put_ 2 (Value.int .i64 (x3 : Nat))
  have k3 := k2.far (p := ⟨gt, 2, none⟩) hne (Value.int .i64 (x3 : Nat))
  have fx := (((Fix.set (T := T) (gr := gr) (gt := gt) w (p := ⟨gr, i, none⟩) (.inl rfl) (Value.int .u64 (x1 : Nat)))).trans (Fix.set _ (p := ⟨gt, 1, none⟩) (.inr rfl) (Value.int .i64 x2))).trans (Fix.set _ (p := ⟨gt, 2, none⟩) (.inr rfl) (Value.int .i64 (x3 : Nat)))
  have K3 := Lib.hid k3
  have T3 := Lib.hid t3
  have FX := Lib.hid fx
  have e0 : ((0 : Int) == 0) = true := rfl
  clear hr ht hne k1 k2 k3 t1 t2 t3 fx hc
  go_enter Try.func78, Try.ntmps78
  go_wp2_with fail
  go_region_with (go_at_call 48; refine HC.out.mono ?_; rintro en w2 ⟨rfl, rfl⟩)
  all_goals
    go_wp2_with fail
    go_end0
    exact ⟨rfl, K3.out.drew, T3.out.drew, FX.out.trans (Fix.of_belowT (Below.refl T _).drew)⟩
theorem reader_number_stay (w : World) (gr gt i e : Nat) (TW : TypeId) (v0 v1 : Value) (he : e ≠ 0) (ht : Whole w gt TW #[v0, v1, .int .i64 (e : Nat)]) :
    Calls Try.prog 78 #[.pointer (some ⟨gt, 0, none⟩), .pointer (some ⟨gr, i, none⟩)] w fun en w' => en = .returned (.tuple #[]) ∧ w' = w := by
  have q2 := ht.cell 2
  simp at q2
  have e0 : ((e : Int) == 0) = false := by simp; omega
  clear ht he
  go_enter Try.func78, Try.ntmps78
  go_wp2_with fail
  go_end0
  exact ⟨rfl, rfl⟩
set_option maxHeartbeats 8000000 in
theorem reader_text_any (w : World) (gr gt i : Nat) (s0 : ByteArray) (TR TW : TypeId) (cs : Array Value) (hr : Whole w gr TR cs) (hc : cs[i]? = some (.string s0)) (A : Option Addr) (n cap : Nat) (b : List UInt8) (B : Nat) (h : Rd w B 1 A n (byts b)) (hcap : n ≤ cap) (hm : n ≤ 100000000) (p : Int) (hp1 : 0 ≤ p) (hp2 : p ≤ 9223372036854775807)
    (ht : Whole w gt TW #[.slice A n cap, .int .i64 p, .int .i64 (0 : Nat)]) (hne : gr ≠ gt) (T : Nat) :
    Calls Try.prog 79 #[.pointer (some ⟨gt, 0, none⟩), .pointer (some ⟨gr, i, none⟩)] w fun en w' => en = .returned (.tuple #[]) ∧
      Whole w' gr TR (cs.setIfInBounds i (.string ⟨(Var.ttext b p).1.toArray⟩)) ∧ Whole w' gt TW #[.slice A n cap, .int .i64 (Var.ttext b p).2.1, .int .i64 ((Var.ttext b p).2.2 : Nat)] ∧ Fix T gr gt w w' := by
  have hcall : ∀ w' : World, Rd w' B 1 A n (byts b) → Calls Try.prog 80 #[.slice A n cap, .int .i64 p] w' fun e w'' => e = .returned (.tuple #[.string ⟨(Var.ttext b p).1.toArray⟩, .int .i64 (Var.ttext b p).2.1, .int .i64 ((Var.ttext b p).2.2 : Nat)]) ∧ w' = w'' := fun w' h => takeText_any w' A n cap b B h hcap hm p (by omega) hp2
  obtain ⟨x1, hx1⟩ : ∃ x, (Var.ttext b p).1 = x := ⟨_, rfl⟩
  obtain ⟨x2, hx2⟩ : ∃ x, (Var.ttext b p).2.1 = x := ⟨_, rfl⟩
  obtain ⟨x3, hx3⟩ : ∃ x, (Var.ttext b p).2.2 = x := ⟨_, rfl⟩
  rw [hx1, hx2, hx3] at hcall ⊢
  have HC := Lib.hid (hcall w.drew h)
  clear hx1 hx2 hx3 hcall h
  have q0 := ht.cell 0
  have q1 := ht.cell 1
  have q2 := ht.cell 2
  simp at q0 q1 q2
  have q := (hr.cell i).trans hc
  have f := hr.frozen i
  have k1 := hr.put_ i (Value.string ⟨x1.toArray⟩)
  have t1 := ht.far (p := ⟨gr, i, none⟩) (Ne.symm hne) (Value.string ⟨x1.toArray⟩)
  have q4 := t1.cell 1
  simp at q4
  have f4 := t1.frozen 1
  have t2 := t1.put_ 1 (Value.int .i64 x2)
  have k2 := k1.far (p := ⟨gt, 1, none⟩) hne (Value.int .i64 x2)
  have q5 := t2.cell 2
  simp at q5
  have f5 := t2.frozen 2
  have t3 := t2.put_ 2 (Value.int .i64 (x3 : Nat))
  have k3 := k2.far (p := ⟨gt, 2, none⟩) hne (Value.int .i64 (x3 : Nat))
  have fx := (((Fix.set (T := T) (gr := gr) (gt := gt) w (p := ⟨gr, i, none⟩) (.inl rfl) (Value.string ⟨x1.toArray⟩))).trans (Fix.set _ (p := ⟨gt, 1, none⟩) (.inr rfl) (Value.int .i64 x2))).trans (Fix.set _ (p := ⟨gt, 2, none⟩) (.inr rfl) (Value.int .i64 (x3 : Nat)))
  have K3 := Lib.hid k3
  have T3 := Lib.hid t3
  have FX := Lib.hid fx
  have e0 : ((0 : Int) == 0) = true := rfl
  clear hr ht hne k1 k2 k3 t1 t2 t3 fx hc
  go_enter Try.func79, Try.ntmps79
  go_wp2_with fail
  go_region_with (go_at_call 80; refine HC.out.mono ?_; rintro en w2 ⟨rfl, rfl⟩)
  all_goals
    go_wp2_with fail
    go_end0
    exact ⟨rfl, K3.out.drew, T3.out.drew, FX.out.trans (Fix.of_belowT (Below.refl T _).drew)⟩
theorem reader_text_stay (w : World) (gr gt i e : Nat) (TW : TypeId) (v0 v1 : Value) (he : e ≠ 0) (ht : Whole w gt TW #[v0, v1, .int .i64 (e : Nat)]) :
    Calls Try.prog 79 #[.pointer (some ⟨gt, 0, none⟩), .pointer (some ⟨gr, i, none⟩)] w fun en w' => en = .returned (.tuple #[]) ∧ w' = w := by
  have q2 := ht.cell 2
  simp at q2
  have e0 : ((e : Int) == 0) = false := by simp; omega
  clear ht he
  go_enter Try.func79, Try.ntmps79
  go_wp2_with fail
  go_end0
  exact ⟨rfl, rfl⟩
theorem Var.ttext_cases (b : List UInt8) (p : Int) : (∃ t nx, ∃ q : Nat, Var.ttext b p = (t, ((nx : Nat) : Int), 0) ∧ p = q ∧ q < nx ∧ nx ≤ b.length ∧ t.length ≤ b.length) ∨ Var.ttext b p = ([], p, 10) ∨ Var.ttext b p = ([], p, 11) := by
  unfold Var.ttext
  rcases Var.take_cases b p with ⟨v, s, q, hv, hq, h1, h2, h3⟩ | hv | hv
  · rw [hv]
    simp only [Int.toNat_natCast]
    rw [if_neg (by simp)]
    by_cases hl : b.length - s < v
    · rw [if_pos hl]; exact .inr (.inl rfl)
    · rw [if_neg hl]
      refine .inl ⟨_, s + v, q, rfl, hq, by omega, by omega, ?_⟩
      rw [List.length_drop, List.length_take]
      omega
  · rw [hv]; exact .inr (.inl rfl)
  · rw [hv]; exact .inr (.inr rfl)
namespace Rc
/-- What holds while a record is read. -/
def ReadI (b : List UInt8) (x : Rc × Int × Nat) : Prop := x.1.ok ∧ 0 ≤ x.2.1 ∧ x.2.1 ≤ (b.length : Int) ∧ (x.2.2 = 0 ∨ x.2.2 = 10 ∨ x.2.2 = 11)
theorem readI_step {b : List UInt8} (hb : b.length ≤ 100000000) {x : Rc × Int × Nat} (h : ReadI b x) (i : Nat) : ReadI b (readStep b x i) := by
  obtain ⟨h1, h2, h3, h4⟩ := h
  unfold readStep
  by_cases he : x.2.2 = 0
  · rw [if_pos he]
    split
    · rcases Var.take_cases b x.2.1 with ⟨v, s, q, hv, hq, g1, g2, g3⟩ | hv | hv <;> rw [hv]
      · exact ⟨ok_put h1 i g3 (by unfold maxLen; exact Nat.zero_le _), by show (0 : Int) ≤ (s : Int); omega, by show (s : Int) ≤ _; omega, .inl rfl⟩
      · exact ⟨ok_put h1 i (by omega) (by unfold maxLen; exact Nat.zero_le _), h2, h3, .inr (.inl rfl)⟩
      · exact ⟨ok_put h1 i (by omega) (by unfold maxLen; exact Nat.zero_le _), h2, h3, .inr (.inr rfl)⟩
    · rcases Var.ttext_cases b x.2.1 with ⟨t, s, q, hv, hq, g1, g2, g3⟩ | hv | hv <;> rw [hv]
      · refine ⟨ok_put h1 i (by omega) ?_, by show (0 : Int) ≤ (s : Int); omega, by show (s : Int) ≤ _; omega, .inl rfl⟩
        show t.toArray.size ≤ maxLen
        unfold maxLen
        rw [List.size_toArray]
        omega
      · exact ⟨ok_put h1 i (by omega) (by unfold maxLen; exact Nat.zero_le _), h2, h3, .inr (.inl rfl)⟩
      · exact ⟨ok_put h1 i (by omega) (by unfold maxLen; exact Nat.zero_le _), h2, h3, .inr (.inr rfl)⟩
  · rw [if_neg he]; exact ⟨h1, h2, h3, h4⟩
theorem readI {b : List UInt8} (hb : b.length ≤ 100000000) {r : Rc} (h : r.ok) (l : List Nat) : ReadI b (readAll b r l) := by
  suffices H : ∀ (l : List Nat) (x : Rc × Int × Nat), ReadI b x → ReadI b (l.foldl (readStep b) x) from H l _ ⟨h, Int.le_refl 0, Int.natCast_nonneg _, .inl rfl⟩
  intro l
  induction l with
  | nil => exact fun _ h => h
  | cons i l ih => exact fun x hx => ih _ (readI_step hb hx i)
end Rc
theorem Rd.fix {w w' : World} {B s n T gr gt : Nat} {A : Option Addr} {xs : List Value} (h : Rd w B s A n xs) (hf : Fix T gr gt w w') (hB : B ≤ T) (hA : 0 < n → ∀ b o, A = some ⟨b, o, none⟩ → b ≠ gr ∧ b ≠ gt) : Rd w' B s A n xs :=
  ⟨h.1, fun hn => by
    obtain ⟨b, o, e, hb, hc⟩ := h.2 hn
    obtain ⟨h1, h2⟩ := hA hn b o e
    exact ⟨b, o, e, hb, fun j u hu => (hf.cell (p := ⟨b, o + j, none⟩) (show b < T by omega) h1 h2).trans (hc j u hu)⟩⟩
theorem reader_ahead (a : Addr) (w : World) : (∀ s, IsMet 0 s → (nilAhead (Try.prog.types.size + Made.depth) 74 (.pointer (some a)) s).run Try.prog w = .ok (some false) w) ∧ (∀ s, IsMet 1 s → (nilAhead (Try.prog.types.size + Made.depth) 74 (.pointer (some a)) s).run Try.prog w = .ok (some false) w) :=
  ⟨IsMet.all (IsMet.zero Try.underlying89) (by kernel_rfl), IsMet.all (IsMet.one Try.underlying89) (by kernel_rfl)⟩
theorem reader_method (v : Value) (w : World) : (∀ s, IsMet 0 s → (method 231 74 v s).run Try.prog w = .ok (78, v) w) ∧ (∀ s, IsMet 1 s → (method 231 74 v s).run Try.prog w = .ok (79, v) w) :=
  ⟨IsMet.all (IsMet.zero Try.underlying89) (by kernel_rfl), IsMet.all (IsMet.one Try.underlying89) (by kernel_rfl)⟩
theorem reader_enter (args : Array Value) (w : World) : (callFunc 78 args).run Try.prog w = .ok (.enter 78 args) w ∧ (callFunc 79 args).run Try.prog w = .ok (.enter 79 args) w := by
  constructor <;> kernel_rfl
/-- What is kept. -/
def ReadV (gr gt B : Nat) (TR TW : TypeId) (A0 : Option Addr) (n0 c0 : Nat) (b : List UInt8) (r : Rc) (_ : Nat) (l : List Nat) (w : World) : Prop :=
  B ≤ w.heap.size ∧ Rd w B 1 A0 n0 (byts b) ∧ Whole w gr TR (Rc.readAll b r l).1.cells ∧ Whole w gt TW #[.slice A0 n0 c0, .int .i64 (Rc.readAll b r l).2.1, .int .i64 ((Rc.readAll b r l).2.2 : Nat)]
set_option maxHeartbeats 1000000 in
theorem visit_reader (w : World) (gr gt : Nat) (TR TW : TypeId) (r : Rc) (hok : r.ok) (A0 : Option Addr) (n0 c0 : Nat) (b : List UInt8) (B : Nat) (hB : B ≤ w.heap.size) (hb : Rd w B 1 A0 n0 (byts b)) (hc0 : n0 ≤ c0) (hn0 : n0 ≤ 100000000)
    (hr : Whole w gr TR r.cells) (ht : Whole w gt TW #[.slice A0 n0 c0, .int .i64 (0 : Nat), .int .i64 (0 : Nat)]) (hne : gr ≠ gt) (hbb : 0 < n0 → ∀ b o, A0 = some ⟨b, o, none⟩ → b ≠ gr ∧ b ≠ gt)
    (A : Option Addr) (n c : Nat) (ps : List Nat) (hps : ∀ p ∈ ps, p < 8)
    (hA : Rd w w.heap.size 1 A n (smalls ps)) (hAb : 0 < n → ∀ b o, A = some ⟨b, o, none⟩ → b ≠ gr ∧ b ≠ gt) (hn : n ≤ 8) :
    Calls Try.prog 30 #[.pointer (some ⟨gr, 0, none⟩), .iface 74 (.pointer (some ⟨gt, 0, none⟩)), .slice A n c] w fun en w' => en = .returned (.tuple #[]) ∧
      Whole w' gr TR (Rc.readAll b r ([1, 2, 3] ++ ps.map (· + 4))).1.cells ∧ Whole w' gt TW #[.slice A0 n0 c0, .int .i64 (Rc.readAll b r ([1, 2, 3] ++ ps.map (· + 4))).2.1, .int .i64 ((Rc.readAll b r ([1, 2, 3] ++ ps.map (· + 4))).2.2 : Nat)] ∧
      Rd w' B 1 A0 n0 (byts b) ∧ Fix w.heap.size gr gt w w' := by
  have hl := hb.blen
  refine (visit_any 74 78 79 (fun v w => (reader_method v w).1) (fun v w => (reader_method v w).2) (fun a w => (reader_enter a w).1) (fun a w => (reader_enter a w).2) (ReadV gr gt B TR TW A0 n0 c0 b r) w gr gt
    (fun w => (reader_ahead _ w).1) (fun w => (reader_ahead _ w).2) hr.lt ht.lt A n c ps hps hA hAb hn (fun Tm w1 hb1 hT _ => ⟨Nat.le_trans hB hb1.size, hb.below (hb1.mono hB), hr.below hb1 hr.lt, ht.below hb1 ht.lt⟩) (fun Tm l w1 w2 hv hb1 => by
      obtain ⟨h1, h2, h3, h4⟩ := hv
      exact ⟨Nat.le_trans h1 hb1.size, h2.below (hb1.mono h1), h3.below hb1 h3.lt, h4.below hb1 h4.lt⟩) ?_ ?_).mono ?_
  · intro Tm l i w1 hTm hTs hv _ h1 h2
    obtain ⟨g1, g2, g3, g4⟩ := hv
    obtain ⟨i1, i2, i3, i4⟩ := Rc.readI (b := b) (by omega) hok l
    by_cases he : (Rc.readAll b r l).2.2 = 0
    · rw [he] at g4
      refine (reader_number_any w1 gr gt i _ TR TW _ g3 (Rc.cells_at _ h1 h2) A0 n0 c0 b B g2 hc0 hn0 _ i2 (by omega) g4 hne Tm).mono ?_
      rintro en w2 ⟨rfl, k1, k2, k3⟩
      rw [Rc.cells_put _ h1 h2 _ ⟨#[]⟩] at k1
      have hs : Rc.readAll b r (l ++ [i]) = ((Rc.readAll b r l).1.put i (Var.take b (Rc.readAll b r l).2.1).1 ⟨#[]⟩, (Var.take b (Rc.readAll b r l).2.1).2.1, (Var.take b (Rc.readAll b r l).2.1).2.2) := by
        rw [Rc.readAll_snoc]; unfold Rc.readStep; rw [if_pos he, if_pos h2]
      refine ⟨rfl, ⟨Nat.le_trans g1 k3.size, g2.fix k3 (Nat.le_trans hB hTm) hbb, ?_, ?_⟩, k3⟩
      · rw [hs]; exact k1
      · rw [hs]; exact k2
    · refine (reader_number_stay w1 gr gt i _ TW _ _ he g4).mono ?_
      rintro en w2 ⟨rfl, rfl⟩
      have hs : Rc.readAll b r (l ++ [i]) = Rc.readAll b r l := by
        rw [Rc.readAll_snoc]; unfold Rc.readStep; rw [if_neg he]
      refine ⟨rfl, ⟨g1, g2, ?_, ?_⟩, Fix.refl _ _ _ _⟩
      · rw [hs]; exact g3
      · rw [hs]; exact g4
  · intro Tm l i w1 hTm hTs hv _ h1
    obtain ⟨g1, g2, g3, g4⟩ := hv
    obtain ⟨i1, i2, i3, i4⟩ := Rc.readI (b := b) (by omega) hok l
    by_cases he : (Rc.readAll b r l).2.2 = 0
    · rw [he] at g4
      refine (reader_text_any w1 gr gt i _ TR TW _ g3 (Rc.cells_tat _ h1) A0 n0 c0 b B g2 hc0 hn0 _ i2 (by omega) g4 hne Tm).mono ?_
      rintro en w2 ⟨rfl, k1, k2, k3⟩
      rw [Rc.cells_putt _ h1 0] at k1
      have hs : Rc.readAll b r (l ++ [i]) = ((Rc.readAll b r l).1.put i 0 ⟨(Var.ttext b (Rc.readAll b r l).2.1).1.toArray⟩, (Var.ttext b (Rc.readAll b r l).2.1).2.1, (Var.ttext b (Rc.readAll b r l).2.1).2.2) := by
        rw [Rc.readAll_snoc]; unfold Rc.readStep; rw [if_pos he, if_neg (by omega)]
      refine ⟨rfl, ⟨Nat.le_trans g1 k3.size, g2.fix k3 (Nat.le_trans hB hTm) hbb, ?_, ?_⟩, k3⟩
      · rw [hs]; exact k1
      · rw [hs]; exact k2
    · refine (reader_text_stay w1 gr gt i _ TW _ _ he g4).mono ?_
      rintro en w2 ⟨rfl, rfl⟩
      have hs : Rc.readAll b r (l ++ [i]) = Rc.readAll b r l := by
        rw [Rc.readAll_snoc]; unfold Rc.readStep; rw [if_neg he]
      refine ⟨rfl, ⟨g1, g2, ?_, ?_⟩, Fix.refl _ _ _ _⟩
      · rw [hs]; exact g3
      · rw [hs]; exact g4
  · rintro en w' ⟨he, Tm, hT, ⟨_, hv0, hv1, hv2⟩, w0, hb, hf⟩
    exact ⟨he, hv1, hv2, hv0, (Fix.of_below hb (Nat.le_refl _)).trans (hf.mono hT)⟩
end Go.Proofs.Ytmobgamlednlhaa
namespace Go.Proofs.Ytmobgamlednlhaa
open Go.RowKit
section
variable {P : Program} {w : World}
theorem growAt_lookup {o : Oper} {a : Act} {s : GSpec} {t : TypeId} {m k : Operand} {ok : Bool} (ho : o.op = .lookup t m k ok) {vm vk : Value} (hm : a.eval m = vm) (hk : a.eval k = vk) {u : Value} (hrun : (Instr.lookup t vm vk ok).run P w = .ok u w)
    (hF : ∃ x, u = s.val x ∧ s.F o a.eval x w) : Oper.growAt P o a s w := by
  unfold Oper.growAt Oper.growUpon execOp
  simp only [ho, hm, hk, Sem.run_bind, hrun, Result.andThen_ok, Sem.run_pure]
  obtain ⟨x, h1, h2⟩ := hF
  exact ⟨x, h1, h2, Below.refl _ _⟩
theorem growAt_load_row {o : Oper} {a : Act} {ty : TypeId} {x : Operand} (ho : o.op = .load ty x) {g : Nat} (hx : a.eval x = .pointer (some ⟨g, 0, none⟩)) {t : TypeId} {cs : Array Value} (hg : Whole w g t cs) {d : TypeDesc}
    (hu : P.underlying ty = some d) (hd : (match d with | .struct _ | .array _ _ => true | _ => false) = true) (hi : (P.info? ty).map (·.size) = some cs.size) : Oper.growAt P o a (.fix (.agg cs)) w := by
  unfold Oper.growAt Oper.growUpon execOp
  simp only [ho, hx, Instr.loadAt, Instr.sureAddr, Sem.run_bind, Sem.run_pure, Result.andThen_ok, run_loadVar_row w g t ty cs (0, 0) d hg hu hd hi]
  exact ⟨(), rfl, trivial, Below.refl _ _⟩
theorem wpList_load_rowg {ops : Array Oper} {rest : List Oper} {o : Oper} {a : Act} {Q : Exit → Act → World → Prop} (hwn : Region.wanted o (yielded ops a.tmps) = true) (ty : TypeId) (x : Operand) (ho : o.op = .load ty x)
    (g : Nat) (hx : a.eval x = .pointer (some ⟨g, 0, none⟩)) (t : TypeId) (cs : Array Value) (d : TypeDesc) (hg : Whole w g t cs)
    (hu : P.underlying ty = some d) (hd : (match d with | .struct _ | .array _ _ => true | _ => false) = true) (hi : (P.info? ty).map (·.size) = some cs.size)
    (h : wpList P ops Q rest (a.put o.dst (.agg cs)) w) : wpList P ops Q (o :: rest) a w :=
  wpList_step fun _ hK => by
    rw [if_pos hwn]
    exact wp_load_row ty x ho g hx t cs (0, 0) d hg hu hd hi (hK _ _ h)
end
theorem Whole.row {w : World} {g : Nat} {t : TypeId} {cs : Array Value} (h : Whole w g t cs) (cs' : Array Value) : Whole (w.setRow g cs') g t cs' := setRow_heap w g cs cs' t (0, 0) h
theorem Whole.row_far {w : World} {g k : Nat} {t : TypeId} {cs : Array Value} (h : Whole w g t cs) (hk : g ≠ k) (cs' : Array Value) : Whole (w.setRow k cs') g t cs := (setRow_other w k g cs' hk).trans h
theorem Below.setRow {B : Nat} {a w : World} (h : Below B a w) {g : Nat} (hg : B ≤ g) (cs : Array Value) : Below B a (w.setRow g cs) :=
  h.trans ⟨rfl, rfl, rfl, by simp, fun k hk => setRow_other w g k cs (by omega)⟩
/-- A new map of kinds. -/
def GSpec.kmap (base : Nat) : GSpec :=
  ⟨Nat, 0, fun g => .map (some g), fun _ _ g w => KMap w base g Rec.kinds, fun _ _ _ _ => rfl, fun _ _ _ _ _ h k => h.ext k⟩
/-- A row of parts, looked up. -/
def GSpec.lk (base : Nat) (ps : List Nat) : GSpec :=
  ⟨Nat, 0, fun b => .tuple #[.slice (some ⟨b, 0, none⟩) ps.length ps.length, .bool true], fun _ _ b w => base ≤ b ∧ Whole w b 94 (smalls ps).toArray, fun _ _ _ _ => rfl, fun _ _ _ _ _ h k => ⟨h.1, h.2.below k h.2.lt⟩⟩
def GSpec.lk1 (base : Nat) (ps : List Nat) : GSpec :=
  ⟨Nat, 0, fun b => .slice (some ⟨b, 0, none⟩) ps.length ps.length, fun _ _ b w => base ≤ b ∧ Whole w b 94 (smalls ps).toArray, fun _ _ _ _ => rfl, fun _ _ _ _ _ h k => ⟨h.1, h.2.below k h.2.lt⟩⟩
/-- The parts of a kind. -/
def Rc.pl (k : Nat) : List Nat := ([[], [0, 1], [0, 1], [0], [0, 2, 4, 5], [2, 1], [2], [], [3], [6], [6], [6, 7]] : List (List Nat)).getD k []
theorem Rc.twelve {k : Nat} (h1 : 1 ≤ k) (h2 : k ≤ 11) : k = 1 ∨ k = 2 ∨ k = 3 ∨ k = 4 ∨ k = 5 ∨ k = 6 ∨ k = 7 ∨ k = 8 ∨ k = 9 ∨ k = 10 ∨ k = 11 := by omega
theorem Rc.pl_mem {k : Nat} {p : Nat × List Nat} (h : p ∈ Rec.kinds) (hk : p.1 = k) : 1 ≤ k ∧ k ≤ 11 ∧ p.2 = Rc.pl k := by
  simp only [Rec.kinds, List.mem_cons, List.mem_nil_iff, or_false] at h
  rcases h with rfl | rfl | rfl | rfl | rfl | rfl | rfl | rfl | rfl | rfl | rfl <;> (subst hk; exact ⟨by decide, by decide, rfl⟩)
theorem Rc.pl_not {k : Nat} (h : ∀ p ∈ Rec.kinds, p.1 ≠ k) : ¬ (1 ≤ k ∧ k ≤ 11) := by
  rintro ⟨h1, h2⟩
  rcases Rc.twelve h1 h2 with rfl | rfl | rfl | rfl | rfl | rfl | rfl | rfl | rfl | rfl | rfl 
  · exact h (1, [0, 1]) (by decide) rfl
  · exact h (2, [0, 1]) (by decide) rfl
  · exact h (3, [0]) (by decide) rfl
  · exact h (4, [0, 2, 4, 5]) (by decide) rfl
  · exact h (5, [2, 1]) (by decide) rfl
  · exact h (6, [2]) (by decide) rfl
  · exact h (7, []) (by decide) rfl
  · exact h (8, [3]) (by decide) rfl
  · exact h (9, [6]) (by decide) rfl
  · exact h (10, [6]) (by decide) rfl
  · exact h (11, [6, 7]) (by decide) rfl
theorem Rc.pl_lt (k : Nat) : ∀ p ∈ Rc.pl k, p < 8 := by
  rcases Nat.lt_or_ge k 12 with h | h
  · have hc : k = 0 ∨ k = 1 ∨ k = 2 ∨ k = 3 ∨ k = 4 ∨ k = 5 ∨ k = 6 ∨ k = 7 ∨ k = 8 ∨ k = 9 ∨ k = 10 ∨ k = 11 := by omega
    rcases hc with rfl | rfl | rfl | rfl | rfl | rfl | rfl | rfl | rfl | rfl | rfl | rfl <;> decide
  · unfold Rc.pl
    rw [List.getD_eq_getElem?_getD, List.getElem?_eq_none (by simpa using h)]
    simp
theorem Rc.pl_len (k : Nat) : (Rc.pl k).length ≤ 4 := by
  rcases Nat.lt_or_ge k 12 with h | h
  · have hc : k = 0 ∨ k = 1 ∨ k = 2 ∨ k = 3 ∨ k = 4 ∨ k = 5 ∨ k = 6 ∨ k = 7 ∨ k = 8 ∨ k = 9 ∨ k = 10 ∨ k = 11 := by omega
    rcases hc with rfl | rfl | rfl | rfl | rfl | rfl | rfl | rfl | rfl | rfl | rfl | rfl <;> decide
  · unfold Rc.pl
    rw [List.getD_eq_getElem?_getD, List.getElem?_eq_none (by simpa using h)]
    simp
/-- A record of its kind alone. -/
def Rc.zero (k : Nat) : Rc := ⟨k, 0, 0, 0, 0, 0, 0, 0, 0, 0, ⟨#[]⟩, ⟨#[]⟩⟩
theorem Rc.zero_ok {k : Nat} (h : k < 256) : (Rc.zero k).ok := by
  unfold Rc.zero Rc.ok maxLen
  exact ⟨h, by simp, by simp, by simp, by simp, by simp, by simp, by simp, by simp, by simp, Nat.zero_le _, Nat.zero_le _⟩
/-- All places of a kind's visit. -/
def Rc.places (k : Nat) : List Nat := [1, 2, 3] ++ (Rc.pl k).map (· + 4)
/-- Is a record right? -/
def Rc.right (r : Rc) : Bool := decide (1 ≤ r.k ∧ r.k ≤ 11) && decide (r.size ≤ 65535) && decide (r.crc ≤ 4294967295) && !(r.takeAll (Rc.places r.k)).2 && (r.takeAll (Rc.places r.k)).1.eqB (Rc.zero r.k)
theorem rec_size (r : Rc) : (Try.prog.info? 24).map (·.size) = some r.cells.size := by kernel_rfl
theorem rrec_size (r : Rc) : (Try.prog.info? 31).map (·.size) = some r.cells.size := by kernel_rfl
theorem rec_cells (r : Rc) : r.cells.all (·.oneCell') = true := by simp [Rc.cells, Value.oneCell']
theorem rec_eq (w : World) (a b : Rc) : (binOp .eql 24 (.agg a.cells) (.agg b.cells)).run Try.prog w = .ok (.bool (a.eqB b)) w := rec_eql w _ _ _ _ _ _ _ _ _ _ _ _ _ _ _ _ _ _ _ _ _ _ _ _
theorem rrec_eq (w : World) (a b : Rc) : (binOp .eql 31 (.agg a.cells) (.agg b.cells)).run Try.prog w = .ok (.bool (a.eqB b)) w := rrec_eql w _ _ _ _ _ _ _ _ _ _ _ _ _ _ _ _ _ _ _ _ _ _ _ _
theorem kmap_found {w : World} {base g : Nat} (h : KMap w base g Rec.kinds) {k : Nat} (h1 : 1 ≤ k) (h2 : k ≤ 11) :
    ∃ b, base ≤ b ∧ Whole w b 94 (smalls (Rc.pl k)).toArray ∧ (Instr.lookup 61 (.map (some g)) (.int .u8 (k : Nat)) true).run Try.prog w = .ok (.tuple #[.slice (some ⟨b, 0, none⟩) (Rc.pl k).length (Rc.pl k).length, .bool true]) w ∧
      (Instr.lookup 61 (.map (some g)) (.int .u8 (k : Nat)) false).run Try.prog w = .ok (.slice (some ⟨b, 0, none⟩) (Rc.pl k).length (Rc.pl k).length) w := by
  have hz : (zeroValue 60).run Try.prog w = .ok (.slice none 0 0) w := by kernel_rfl
  rcases run_lookup_key (P := Try.prog) (t := 61) Try.underlying61 Try.underlying5 hz h k with ⟨hn, _⟩ | ⟨p, hp, hk, v, ⟨b, rfl, hb, hw⟩, e1, e2⟩
  · exact absurd ⟨h1, h2⟩ (Rc.pl_not hn)
  · obtain ⟨_, _, e3⟩ := Rc.pl_mem hp hk
    rw [e3] at hw e1 e2
    exact ⟨b, hb, hw, e1, e2⟩
theorem kmap_none {w : World} {base g : Nat} (h : KMap w base g Rec.kinds) {k : Nat} (h1 : ¬ (1 ≤ k ∧ k ≤ 11)) :
    (Instr.lookup 61 (.map (some g)) (.int .u8 (k : Nat)) true).run Try.prog w = .ok (.tuple #[.slice none 0 0, .bool false]) w := by
  have hz : (zeroValue 60).run Try.prog w = .ok (.slice none 0 0) w := by kernel_rfl
  rcases run_lookup_key (P := Try.prog) (t := 61) Try.underlying61 Try.underlying5 hz h k with ⟨_, e⟩ | ⟨p, hp, hk, _⟩
  · exact e
  · obtain ⟨g1, g2, _⟩ := Rc.pl_mem hp hk
    exact absurd ⟨g1, g2⟩ h1
end Go.Proofs.Ytmobgamlednlhaa
namespace Go.Proofs.Ytmobgamlednlhaa
open Go.RowKit
namespace Rc
/-- The letter of a part. -/
def lett (p : Nat) : UInt8 := ([101, 117, 118, 107, 115, 99, 110, 116] : List UInt8).getD p 0
theorem letters_eq (k : Nat) : letters k = (pl k).map lett := by
  rcases Nat.lt_or_ge k 12 with h | h
  · have hc : k = 0 ∨ k = 1 ∨ k = 2 ∨ k = 3 ∨ k = 4 ∨ k = 5 ∨ k = 6 ∨ k = 7 ∨ k = 8 ∨ k = 9 ∨ k = 10 ∨ k = 11 := by omega
    rcases hc with rfl | rfl | rfl | rfl | rfl | rfl | rfl | rfl | rfl | rfl | rfl | rfl <;> rfl
  · unfold letters pl
    rw [List.getD_eq_getElem?_getD, List.getElem?_eq_none (by simpa using h), List.getD_eq_getElem?_getD, List.getElem?_eq_none (by simpa using h)]
    rfl
theorem eight {p : Nat} (h : p < 8) : p = 0 ∨ p = 1 ∨ p = 2 ∨ p = 3 ∨ p = 4 ∨ p = 5 ∨ p = 6 ∨ p = 7 := by omega
theorem lett_text {p : Nat} (h : p < 8) : isText (lett p).toNat = decide (6 ≤ p) := by
  rcases eight h with rfl | rfl | rfl | rfl | rfl | rfl | rfl | rfl <;> rfl
theorem lett_num (r : Rc) {p : Nat} (h : p < 6) : r.num (lett p).toNat = r.at_ (p + 4) := by
  rcases eight (show p < 8 by omega) with rfl | rfl | rfl | rfl | rfl | rfl | rfl | rfl <;> first | rfl | omega
theorem lett_txt (r : Rc) {p : Nat} (h : 6 ≤ p) (h8 : p < 8) : r.txt (lett p).toNat = r.tat (p + 4) := by
  rcases eight h8 with rfl | rfl | rfl | rfl | rfl | rfl | rfl | rfl <;> first | rfl | omega
theorem lett_with (r : Rc) {p : Nat} (h : p < 8) (n : Nat) (s : ByteArray) : r.with_ (lett p).toNat n s = r.put (p + 4) n s := by
  rcases eight h with rfl | rfl | rfl | rfl | rfl | rfl | rfl | rfl <;> rfl
/-- The places told of by the first j letters. -/
def pre (k j : Nat) : List Nat := [1, 2, 3] ++ ((pl k).take j).map (· + 4)
theorem pre_zero (k : Nat) : pre k 0 = [1, 2, 3] := rfl
theorem pre_succ {k j : Nat} (h : j < (pl k).length) : pre k (j + 1) = pre k j ++ [(pl k)[j] + 4] := by
  unfold pre
  rw [List.take_succ_eq_append_getElem h, List.map_append, List.append_assoc]
  rfl
theorem pre_all (k : Nat) : pre k (pl k).length = places k := by
  unfold pre places
  rw [List.take_length]
theorem letters_at {k j : Nat} (h : j < (pl k).length) : (letters k)[j]? = some (lett (pl k)[j]) := by
  rw [letters_eq, List.getElem?_map, List.getElem?_eq_getElem h]
  rfl
theorem letters_length (k : Nat) : (letters k).length = (pl k).length := by rw [letters_eq, List.length_map]
end Rc
end Go.Proofs.Ytmobgamlednlhaa
