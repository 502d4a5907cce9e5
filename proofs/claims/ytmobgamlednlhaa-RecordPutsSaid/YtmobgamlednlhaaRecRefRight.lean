/-
  Records: the document's Right.
-/
import Derived.Test.YtmobgamlednlhaaRecRight
import Derived.Test.YtmobgamlednlhaaRecLaw
import Derived.Test.YtmobgamlednlhaaRecWith
namespace Go.Proofs.Ytmobgamlednlhaa
open Go.RowKit
theorem run_index_str {P : Program} {w : World} {t : TypeId} (ht : P.underlying t = some .string) {s : ByteArray} {j : Nat} {c : UInt8} (h : s.data.toList[j]? = some c) (k : IntKind) : (Instr.index t (.string s) (.int k (j : Nat))).run P w = .ok (.int .u8 (c.toNat : Nat)) w := by
  have h1 : j < s.data.toList.length := (List.getElem?_eq_some_iff.1 h).1
  have h2 : s[j]? = some c := by
    have h3 : j < s.size := by rw [← size_list s]; exact h1
    rw [getElem?_pos s j h3]
    rw [List.getElem?_eq_getElem h1] at h
    injection h with h
    rw [← h]
    rfl
  simp [Instr.index, run_underlying ht, asIntOf, h2]
theorem growAt_index {P : Program} {w : World} {o : Oper} {a : Act} {t : TypeId} {x i : Operand} (ho : o.op = .index t x i) {s : ByteArray} (hx : a.eval x = .string s) {k : IntKind} {j : Nat} (hi : a.eval i = .int k (j : Nat)) (ht : P.underlying t = some .string) {c : UInt8} (h : s.data.toList[j]? = some c) :
    Oper.growAt P o a (.fix (.int .u8 (c.toNat : Nat))) w := by
  unfold Oper.growAt Oper.growUpon execOp
  simp only [ho, hx, hi, Sem.run_bind, run_index_str ht h, Result.andThen_ok, Sem.run_pure]
  exact ⟨(), rfl, trivial, Below.refl _ _⟩
attribute [local go_sem] Instr.makeFunc Oper.growAt Oper.growUpon GSpec.fix GSpec.row GSpec.wh GSpec.own GSpec.box GSpec.kmap GSpec.lk match_undef
attribute [local irreducible] wpList
theorem any_take_snoc {α : Type} (p : α → Bool) (l : List α) {j : Nat} (h : j < l.length) : (l.take (j + 1)).any p = ((l.take j).any p || p l[j]) := by
  rw [List.take_succ_eq_append_getElem h, List.any_append]
  simp
set_option maxRecDepth 100000 in
set_option maxHeartbeats 16000000 in
theorem rright_any (w : World) (r : Rc) (hok : r.ok) : Calls Try.prog 15 #[r.val] w fun en w' => en = .returned (.bool r.rright) ∧ Below w.heap.size w w' := by
  unfold Rc.val
  have W1 := Lib.hid (Whole.new w 31 r.cells)
  have B1 := Lib.hid (belowK w (.cells r.cells 31))
  have q0 : (w.alloc (.cells r.cells 31)).cell? ⟨w.heap.size, 0, none⟩ = some (.int .u8 (r.k : Nat)) := W1.out.cell 0
  have q8 : (w.alloc (.cells r.cells 31)).cell? ⟨w.heap.size, 8, none⟩ = some (.int .u64 (r.size : Nat)) := W1.out.cell 8
  have q9 : (w.alloc (.cells r.cells 31)).cell? ⟨w.heap.size, 9, none⟩ = some (.int .u64 (r.crc : Nat)) := W1.out.cell 9
  have HOK := Lib.hid hok
  clear hok
  by_cases h1 : r.k < 1
  · have hd : decide ((r.k : Int) < 1) = true := by simp; omega
    have HF := Lib.hid (show r.rright = false by
      unfold Rc.rright
      rw [decide_eq_false (show ¬ (1 ≤ r.k ∧ r.k ≤ 11) by omega)]
      simp only [Bool.false_and])
    go_enter Try.func15, Try.ntmps15
    go_wp2_with fail
    go_ret
    rw [HF.out]
    exact ⟨rfl, B1.out⟩
  · have hd : decide ((r.k : Int) < 1) = false := by simp; omega
    by_cases h2 : 11 < r.k
    · have hd2 : decide ((11 : Int) < (r.k : Int)) = true := by simp; omega
      have HF := Lib.hid (show r.rright = false by
        unfold Rc.rright
        rw [decide_eq_false (show ¬ (1 ≤ r.k ∧ r.k ≤ 11) by omega)]
        simp only [Bool.false_and])
      go_enter Try.func15, Try.ntmps15
      go_wp2_with fail
      go_ret
      rw [HF.out]
      exact ⟨rfl, B1.out⟩
    · have hd2 : decide ((11 : Int) < (r.k : Int)) = false := by simp; omega
      by_cases h3 : 65535 < r.size
      · have hd3 : decide ((65535 : Int) < (r.size : Int)) = true := by simp; omega
        have HF := Lib.hid (show r.rright = false by
          unfold Rc.rright
          simp only [show ¬ r.size ≤ 65535 by omega, decide_false, Bool.and_false, Bool.false_and])
        go_enter Try.func15, Try.ntmps15
        go_wp2_with fail
        go_ret
        rw [HF.out]
        exact ⟨rfl, B1.out⟩
      · have hd3 : decide ((65535 : Int) < (r.size : Int)) = false := by simp; omega
        by_cases h4 : 4294967295 < r.crc
        · have hd4 : decide ((4294967295 : Int) < (r.crc : Int)) = true := by simp; omega
          have HF := Lib.hid (show r.rright = false by
            unfold Rc.rright
            simp only [show ¬ r.crc ≤ 4294967295 by omega, decide_false, Bool.and_false, Bool.false_and])
          go_enter Try.func15, Try.ntmps15
          go_wp2_with fail
          go_ret
          rw [HF.out]
          exact ⟨rfl, B1.out⟩
        · have hd4 : decide ((4294967295 : Int) < (r.crc : Int)) = false := by simp; omega
          have HR := Lib.hid (show r.rright = (!(Rc.letters r.k).any r.badText && (r.told (Rc.letters r.k)).eqB r) by
            unfold Rc.rright
            rw [decide_eq_true (show 1 ≤ r.k ∧ r.k ≤ 11 by omega), decide_eq_true (show r.size ≤ 65535 by omega), decide_eq_true (show r.crc ≤ 4294967295 by omega)]
            simp)
          obtain ⟨ls, hls⟩ : ∃ l, Rc.letters r.k = l := ⟨_, rfl⟩
          have HLN := Lib.hid (show ls.length ≤ 4 by rw [← hls]; exact Rc.letters_len _)
          have HCP := Lib.hid (parts_any (w.alloc (.cells r.cells 31)) r.k HOK.out.1)
          rw [hls] at HCP HR
          have h5 : (Rc.whose r).cells = r.whose.cells := rfl
          clear h1 h2 h3 h4 hls h5
          go_enter Try.func15, Try.ntmps15
          go_wp2_with fail
          refine HCP.out.mono ?_
          clear HCP
          rintro en w2 ⟨rfl, hb2⟩
          have V1 := Lib.hid (W1.out.below hb2 W1.out.lt)
          have VB := Lib.hid (B1.out.trans (hb2.mono B1.out.size))
          have p0 : w2.cell? ⟨w.heap.size, 0, none⟩ = some (.int .u8 (r.k : Nat)) := V1.out.cell 0
          have p1 : w2.cell? ⟨w.heap.size, 1, none⟩ = some (.int .u64 (r.proc : Nat)) := V1.out.cell 1
          have p2 : w2.cell? ⟨w.heap.size, 2, none⟩ = some (.int .u64 (r.inc : Nat)) := V1.out.cell 2
          have p3 : w2.cell? ⟨w.heap.size, 3, none⟩ = some (.int .u64 (r.seq : Nat)) := V1.out.cell 3
          clear hb2 q0 q8 q9 hd hd2 hd3 hd4
          go_wp2_with (refine wpList_store_row rfl 31 (.tmp 4) (.tmp 35) rfl w2.heap.size r.whose.cells rfl rfl 31 _ (Whole.new _ _ _) (rrec_size _) rfl (rec_cells _) ?_)
          have g1 := (V1.out.alloc (.cells #[.int .u8 0, .int .u64 0, .int .u64 0, .int .u64 0, .int .u64 0, .int .u64 0, .int .u64 0, .int .u64 0, .int .u64 0, .int .u64 0, .string ⟨#[]⟩, .string ⟨#[]⟩] 31)).row_far (k := w2.heap.size) (by have := V1.out.lt; omega) r.whose.cells
          have g2 := (Whole.new w2 31 #[.int .u8 0, .int .u64 0, .int .u64 0, .int .u64 0, .int .u64 0, .int .u64 0, .int .u64 0, .int .u64 0, .int .u64 0, .int .u64 0, .string ⟨#[]⟩, .string ⟨#[]⟩]).row r.whose.cells
          have g5 := Below.setRow ((Below.refl w.heap.size w2).alloc VB.out.size (.cells #[.int .u8 0, .int .u64 0, .int .u64 0, .int .u64 0, .int .u64 0, .int .u64 0, .int .u64 0, .int .u64 0, .int .u64 0, .int .u64 0, .string ⟨#[]⟩, .string ⟨#[]⟩] 31)) (g := w2.heap.size) VB.out.size r.whose.cells
          have HGL := Lib.hid V1.out.lt
          obtain ⟨g4, hg4⟩ : ∃ g, g = w2.heap.size := ⟨_, rfl⟩
          rw [← hg4] at g1 g2 g5 ⊢
          generalize World.setRow (w2.alloc (.cells #[.int .u8 0, .int .u64 0, .int .u64 0, .int .u64 0, .int .u64 0, .int .u64 0, .int .u64 0, .int .u64 0, .int .u64 0, .int .u64 0, .string ⟨#[]⟩, .string ⟨#[]⟩] 31)) g4 r.whose.cells = W4 at g1 g2 g5 ⊢
          have HG4 := Lib.hid (show w.heap.size < g4 by rw [hg4]; exact HGL.out)
          have G1 := Lib.hid g1
          have G2 := Lib.hid g2
          have G5 := Lib.hid (VB.out.trans (g5.mono (Nat.le_refl _)))
          clear g1 g2 g5 hg4 HGL p0 p1 p2 p3 V1 VB
          go_wp2_with fail
          go_loopw [5] (fun i wr => ∃ j : Nat, j ≤ ls.length ∧ i = .int .i64 j ∧ Hid (Whole wr w.heap.size 31 r.cells) ∧ Hid (Whole wr g4 31 (r.told (ls.take j)).cells) ∧ Hid ((ls.take j).any r.badText = false) ∧ Hid (Below w.heap.size w wr)) (fun i _ => ls.length - (intOf i).toNat)
          case atStart => exact ⟨0, Nat.zero_le _, rfl, G1, G2, Lib.hid rfl, G5⟩
          case round =>
            clear G1 G2 G5
            obtain ⟨j, hj, rfl, HW1, HX0, HA0, HBB⟩ := hrel
            have hsz : (⟨ls.toArray⟩ : ByteArray).size = ls.length := rfl
            by_cases hlt : j < ls.length
            · have hd : decide ((j : Int) < (ls.length : Int)) = true := by simp; omega
              have HTK := Lib.hid (show ls.take (j + 1) = ls.take j ++ [ls[j]] from List.take_succ_eq_append_getElem hlt)
              have HAS := Lib.hid (any_take_snoc r.badText ls hlt)
              have hcj : (⟨ls.toArray⟩ : ByteArray).data.toList[j]? = some ls[j] := by rw [List.toList_toArray, List.getElem?_eq_getElem hlt]
              have HMEM := Lib.hid (show ls.any r.badText = false → r.badText ls[j] = false from fun h => by
                rw [List.any_eq_false] at h
                have := h _ (List.getElem_mem hlt)
                simpa using this)
              obtain ⟨c, hc⟩ : ∃ c, ls[j] = c := ⟨_, rfl⟩
              rw [hc] at hcj HTK HAS HMEM
              obtain ⟨xr, hx⟩ : ∃ x, r.told (ls.take j) = x := ⟨_, rfl⟩
              rw [hx] at HX0
              have HXE := Lib.hid hx
              have HX := HX0
              have HCJ := Lib.hid hcj
              clear hc hx hcj HX0
              have w1 : IntKind.i64.wrap ((j : Int) + 1) = ((j + 1 : Nat) : Int) := by rw [IntKind.wrap_i64]; have := HLN.out; omega
              go_wp2_with fail
              refine wp_region_tail 15 (fun k' => List.lookup k' [(0, (.fix (.agg xr.cells))), (3, (.fix (.int .u8 (c.toNat : Nat)))), (4, (.fix (.agg r.cells))), (7, (.fix (.int .u8 (c.toNat : Nat)))), (8, (.fix (.int .u64 (r.num c.toNat : Nat)))), (9, (.fix (.agg r.cells))), (12, (.fix (.int .u8 (c.toNat : Nat)))), (13, (.fix (.string (r.txt c.toNat)))), (14, (.fix (.agg (r.foldStep xr c).cells)))]) (by as_aux_lemma => kernel_rfl) (by as_aux_lemma => kernel_rfl) (by as_aux_lemma => kernel_rfl) ?_
              simp only [List.take_succ_cons, List.take_zero]
              repeat (refine wpGrow_pure rfl (fun K hK => ?_); go_simp; refine hK.out _ ?_; clear hK K)
              refine wpGrow_eff _ rfl (fun wx he hcl => ?_) (fun _ K hK => ?_) rfl
              · clear hcl
                exact growAt_load_row rfl rfl (HX.out.below he HX.out.lt) Try.underlying31 rfl (rrec_size _)
              go_simp
              refine hK.out _ ?_
              clear hK K
              repeat (refine wpGrow_pure rfl (fun K hK => ?_); go_simp; refine hK.out _ ?_; clear hK K)
              refine wpGrow_eff _ rfl (fun wx he hcl => ?_) (fun _ K hK => ?_) rfl
              · clear hcl
                exact growAt_index rfl rfl rfl Try.underlying9 HCJ.out
              go_simp
              refine hK.out _ ?_
              clear hK K
              repeat (refine wpGrow_pure rfl (fun K hK => ?_); go_simp; refine hK.out _ ?_; clear hK K)
              refine wpGrow_eff _ rfl (fun wx he hcl => ?_) (fun _ K hK => ?_) rfl
              · clear hcl
                exact growAt_load_row rfl rfl (HW1.out.below he HW1.out.lt) Try.underlying31 rfl (rrec_size _)
              go_simp
              refine hK.out _ ?_
              clear hK K
              repeat (refine wpGrow_pure rfl (fun K hK => ?_); go_simp; refine hK.out _ ?_; clear hK K)
              refine wpGrow_eff _ rfl (fun wx he hcl => ?_) (fun _ K hK => ?_) rfl
              · clear hcl
                exact growAt_index rfl rfl rfl Try.underlying9 HCJ.out
              go_simp
              refine hK.out _ ?_
              clear hK K
              repeat (refine wpGrow_pure rfl (fun K hK => ?_); go_simp; refine hK.out _ ?_; clear hK K)
              refine wpGrow_eff _ rfl (fun wx he hcl => ?_) (fun _ K hK => ?_) rfl
              · clear hcl
                have hcon := number_any wx r c.toNat
                go_simp
                try exact hcon
              go_simp
              refine hK.out _ ?_
              clear hK K
              repeat (refine wpGrow_pure rfl (fun K hK => ?_); go_simp; refine hK.out _ ?_; clear hK K)
              refine wpGrow_eff _ rfl (fun wx he hcl => ?_) (fun _ K hK => ?_) rfl
              · clear hcl
                exact growAt_load_row rfl rfl (HW1.out.below he HW1.out.lt) Try.underlying31 rfl (rrec_size _)
              go_simp
              refine hK.out _ ?_
              clear hK K
              repeat (refine wpGrow_pure rfl (fun K hK => ?_); go_simp; refine hK.out _ ?_; clear hK K)
              refine wpGrow_eff _ rfl (fun wx he hcl => ?_) (fun _ K hK => ?_) rfl
              · clear hcl
                exact growAt_index rfl rfl rfl Try.underlying9 HCJ.out
              go_simp
              refine hK.out _ ?_
              clear hK K
              repeat (refine wpGrow_pure rfl (fun K hK => ?_); go_simp; refine hK.out _ ?_; clear hK K)
              refine wpGrow_eff _ rfl (fun wx he hcl => ?_) (fun _ K hK => ?_) rfl
              · clear hcl
                have hcon := textOf_any wx r c.toNat
                go_simp
                try exact hcon
              go_simp
              refine hK.out _ ?_
              clear hK K
              repeat (refine wpGrow_pure rfl (fun K hK => ?_); go_simp; refine hK.out _ ?_; clear hK K)
              refine wpGrow_eff _ rfl (fun wx he hcl => ?_) (fun _ K hK => ?_) rfl
              · clear hcl
                have hcon := with_any wx xr c.toNat (r.num c.toNat) (r.txt c.toNat)
                go_simp
                try exact hcon
              go_simp
              refine hK.out _ ?_
              clear hK K
              repeat (refine wpGrow_pure rfl (fun K hK => ?_); go_simp; refine hK.out _ ?_; clear hK K)
              refine wpGrow_nil fun wx he hfin => ?_
              clear hfin
              have HW8 := Lib.hid (HW1.out.below he HW1.out.lt)
              have HX8 := Lib.hid (HX.out.below he HX.out.lt)
              have HB8 := Lib.hid (HBB.out.trans (he.mono HBB.out.size))
              clear he HW1 HX HBB
              simp only [List.drop_succ_cons, List.drop_zero]
              go_wp2_with (refine wpList_store_row rfl 31 (.tmp 4) (.tmp 56) rfl g4 (r.foldStep xr c).cells rfl rfl 31 _ HX8.out (rrec_size _) rfl (rec_cells _) ?_)
              have g1 := HW8.out.row_far (k := g4) (by have := HG4.out; omega) (r.foldStep xr c).cells
              have g2 := HX8.out.row (r.foldStep xr c).cells
              have g3 := Below.setRow HB8.out (g := g4) (by have := HG4.out; omega) (r.foldStep xr c).cells
              generalize World.setRow wx g4 (r.foldStep xr c).cells = W8 at g1 g2 g3 ⊢
              have HW1 := Lib.hid g1
              have HX := Lib.hid g2
              have HBB := Lib.hid g3
              clear g1 g2 g3 HW8 HX8 HB8
              cases ht : Rc.isText c.toNat with
              | false =>
                have HT := Lib.hid ht
                have HAN := Lib.hid (show (ls.take (j + 1)).any r.badText = false by rw [HAS.out, HA0.out]; unfold Rc.badText; rw [ht]; rfl)
                clear ht
                go_wp2_with fail
                refine wp_region_grow (fun k' => List.lookup k' [(2, (.fix (.int .u8 (c.toNat : Nat)))), (3, (.fix (.bool false)))]) (by as_aux_lemma => kernel_rfl) (by as_aux_lemma => kernel_rfl) ?_
                repeat (refine wpGrow_pure rfl (fun K hK => ?_); go_simp; refine hK.out _ ?_; clear hK K)
                refine wpGrow_eff _ rfl (fun wx he hcl => ?_) (fun _ K hK => ?_) rfl
                · clear hcl
                  exact growAt_index rfl rfl rfl Try.underlying9 HCJ.out
                go_simp
                refine hK.out _ ?_
                clear hK K
                repeat (refine wpGrow_pure rfl (fun K hK => ?_); go_simp; refine hK.out _ ?_; clear hK K)
                refine wpGrow_eff _ rfl (fun wx he hcl => ?_) (fun _ K hK => ?_) rfl
                · clear hcl
                  have hcon := (show Calls Try.prog 25 #[.int .u8 (c.toNat : Nat)] wx (fun en w' => en = .returned (.bool false) ∧ Below wx.heap.size wx w') from by have := isText_any wx c.toNat; rwa [HT.out] at this)
                  go_simp
                  try exact hcon
                go_simp
                refine hK.out _ ?_
                clear hK K
                repeat (refine wpGrow_pure rfl (fun K hK => ?_); go_simp; refine hK.out _ ?_; clear hK K)
                refine wpGrow_nil fun wx he hfin => ?_
                clear hfin
                have HX9 := Lib.hid (HX.out.below he HX.out.lt)
                have HW9 := Lib.hid (HW1.out.below he HW1.out.lt)
                have HB9 := Lib.hid (HBB.out.trans (he.mono HBB.out.size))
                clear he
                go_wp2_with fail
                go_roundw
                case rel => exact ⟨j + 1, by omega, by first | rfl | go_num, HW9, (by rw [HTK.out, Rc.told_snoc, HXE.out]; exact HX9), HAN, HB9⟩
                case measure => simp [intOf] <;> omega
              | true =>
                have HT := Lib.hid ht
                clear ht
                by_cases h1 : (r.txt c.toNat).size < 1
                · have hd1 : decide (((r.txt c.toNat).size : Int) < 1) = true := by simp; omega
                  have HF := Lib.hid (show r.rright = false by
                    rw [HR.out]
                    cases hh : ls.any r.badText with
                    | true => rfl
                    | false =>
                      have h2 := HMEM.out hh
                      unfold Rc.badText at h2
                      rw [HT.out, decide_eq_true h1] at h2
                      simp at h2)
                  clear h1
                  go_wp2_with fail
                  refine wp_region_grow (fun k' => List.lookup k' [(2, (.fix (.int .u8 (c.toNat : Nat)))), (3, (.fix (.bool true))), (5, (.fix (.agg r.cells))), (8, (.fix (.int .u8 (c.toNat : Nat)))), (9, (.fix (.string (r.txt c.toNat))))]) (by as_aux_lemma => kernel_rfl) (by as_aux_lemma => kernel_rfl) ?_
                  repeat (refine wpGrow_pure rfl (fun K hK => ?_); go_simp; refine hK.out _ ?_; clear hK K)
                  refine wpGrow_eff _ rfl (fun wx he hcl => ?_) (fun _ K hK => ?_) rfl
                  · clear hcl
                    exact growAt_index rfl rfl rfl Try.underlying9 HCJ.out
                  go_simp
                  refine hK.out _ ?_
                  clear hK K
                  repeat (refine wpGrow_pure rfl (fun K hK => ?_); go_simp; refine hK.out _ ?_; clear hK K)
                  refine wpGrow_eff _ rfl (fun wx he hcl => ?_) (fun _ K hK => ?_) rfl
                  · clear hcl
                    have hcon := (show Calls Try.prog 25 #[.int .u8 (c.toNat : Nat)] wx (fun en w' => en = .returned (.bool true) ∧ Below wx.heap.size wx w') from by have := isText_any wx c.toNat; rwa [HT.out] at this)
                    go_simp
                    try exact hcon
                  go_simp
                  refine hK.out _ ?_
                  clear hK K
                  repeat (refine wpGrow_pure rfl (fun K hK => ?_); go_simp; refine hK.out _ ?_; clear hK K)
                  refine wpGrow_eff _ rfl (fun wx he hcl => ?_) (fun _ K hK => ?_) rfl
                  · clear hcl
                    exact growAt_load_row rfl rfl (HW1.out.below he HW1.out.lt) Try.underlying31 rfl (rrec_size _)
                  go_simp
                  refine hK.out _ ?_
                  clear hK K
                  repeat (refine wpGrow_pure rfl (fun K hK => ?_); go_simp; refine hK.out _ ?_; clear hK K)
                  refine wpGrow_eff _ rfl (fun wx he hcl => ?_) (fun _ K hK => ?_) rfl
                  · clear hcl
                    exact growAt_index rfl rfl rfl Try.underlying9 HCJ.out
                  go_simp
                  refine hK.out _ ?_
                  clear hK K
                  repeat (refine wpGrow_pure rfl (fun K hK => ?_); go_simp; refine hK.out _ ?_; clear hK K)
                  refine wpGrow_eff _ rfl (fun wx he hcl => ?_) (fun _ K hK => ?_) rfl
                  · clear hcl
                    have hcon := textOf_any wx r c.toNat
                    go_simp
                    try exact hcon
                  go_simp
                  refine hK.out _ ?_
                  clear hK K
                  repeat (refine wpGrow_pure rfl (fun K hK => ?_); go_simp; refine hK.out _ ?_; clear hK K)
                  refine wpGrow_nil fun wx he hfin => ?_
                  clear hfin
                  have HB9 := Lib.hid (HBB.out.trans (he.mono HBB.out.size))
                  clear he
                  go_wp2_with fail
                  go_ret
                  rw [HF.out]
                  exact ⟨rfl, HB9.out⟩
                · have hd1 : decide (((r.txt c.toNat).size : Int) < 1) = false := by simp; omega
                  by_cases h2 : 64 < (r.txt c.toNat).size
                  · have hd2 : decide ((64 : Int) < ((r.txt c.toNat).size : Int)) = true := by simp; omega
                    have HF := Lib.hid (show r.rright = false by
                      rw [HR.out]
                      cases hh : ls.any r.badText with
                      | true => rfl
                      | false =>
                        have h3 := HMEM.out hh
                        unfold Rc.badText at h3
                        rw [HT.out, decide_eq_true h2] at h3
                        simp at h3)
                    clear h1 h2
                    go_wp2_with fail
                    refine wp_region_grow (fun k' => List.lookup k' [(2, (.fix (.int .u8 (c.toNat : Nat)))), (3, (.fix (.bool true))), (5, (.fix (.agg r.cells))), (8, (.fix (.int .u8 (c.toNat : Nat)))), (9, (.fix (.string (r.txt c.toNat)))), (13, (.fix (.agg r.cells))), (16, (.fix (.int .u8 (c.toNat : Nat)))), (17, (.fix (.string (r.txt c.toNat))))]) (by as_aux_lemma => kernel_rfl) (by as_aux_lemma => kernel_rfl) ?_
                    repeat (refine wpGrow_pure rfl (fun K hK => ?_); go_simp; refine hK.out _ ?_; clear hK K)
                    refine wpGrow_eff _ rfl (fun wx he hcl => ?_) (fun _ K hK => ?_) rfl
                    · clear hcl
                      exact growAt_index rfl rfl rfl Try.underlying9 HCJ.out
                    go_simp
                    refine hK.out _ ?_
                    clear hK K
                    repeat (refine wpGrow_pure rfl (fun K hK => ?_); go_simp; refine hK.out _ ?_; clear hK K)
                    refine wpGrow_eff _ rfl (fun wx he hcl => ?_) (fun _ K hK => ?_) rfl
                    · clear hcl
                      have hcon := (show Calls Try.prog 25 #[.int .u8 (c.toNat : Nat)] wx (fun en w' => en = .returned (.bool true) ∧ Below wx.heap.size wx w') from by have := isText_any wx c.toNat; rwa [HT.out] at this)
                      go_simp
                      try exact hcon
                    go_simp
                    refine hK.out _ ?_
                    clear hK K
                    repeat (refine wpGrow_pure rfl (fun K hK => ?_); go_simp; refine hK.out _ ?_; clear hK K)
                    refine wpGrow_eff _ rfl (fun wx he hcl => ?_) (fun _ K hK => ?_) rfl
                    · clear hcl
                      exact growAt_load_row rfl rfl (HW1.out.below he HW1.out.lt) Try.underlying31 rfl (rrec_size _)
                    go_simp
                    refine hK.out _ ?_
                    clear hK K
                    repeat (refine wpGrow_pure rfl (fun K hK => ?_); go_simp; refine hK.out _ ?_; clear hK K)
                    refine wpGrow_eff _ rfl (fun wx he hcl => ?_) (fun _ K hK => ?_) rfl
                    · clear hcl
                      exact growAt_index rfl rfl rfl Try.underlying9 HCJ.out
                    go_simp
                    refine hK.out _ ?_
                    clear hK K
                    repeat (refine wpGrow_pure rfl (fun K hK => ?_); go_simp; refine hK.out _ ?_; clear hK K)
                    refine wpGrow_eff _ rfl (fun wx he hcl => ?_) (fun _ K hK => ?_) rfl
                    · clear hcl
                      have hcon := textOf_any wx r c.toNat
                      go_simp
                      try exact hcon
                    go_simp
                    refine hK.out _ ?_
                    clear hK K
                    repeat (refine wpGrow_pure rfl (fun K hK => ?_); go_simp; refine hK.out _ ?_; clear hK K)
                    refine wpGrow_eff _ rfl (fun wx he hcl => ?_) (fun _ K hK => ?_) rfl
                    · clear hcl
                      exact growAt_load_row rfl rfl (HW1.out.below he HW1.out.lt) Try.underlying31 rfl (rrec_size _)
                    go_simp
                    refine hK.out _ ?_
                    clear hK K
                    repeat (refine wpGrow_pure rfl (fun K hK => ?_); go_simp; refine hK.out _ ?_; clear hK K)
                    refine wpGrow_eff _ rfl (fun wx he hcl => ?_) (fun _ K hK => ?_) rfl
                    · clear hcl
                      exact growAt_index rfl rfl rfl Try.underlying9 HCJ.out
                    go_simp
                    refine hK.out _ ?_
                    clear hK K
                    repeat (refine wpGrow_pure rfl (fun K hK => ?_); go_simp; refine hK.out _ ?_; clear hK K)
                    refine wpGrow_eff _ rfl (fun wx he hcl => ?_) (fun _ K hK => ?_) rfl
                    · clear hcl
                      have hcon := textOf_any wx r c.toNat
                      go_simp
                      try exact hcon
                    go_simp
                    refine hK.out _ ?_
                    clear hK K
                    repeat (refine wpGrow_pure rfl (fun K hK => ?_); go_simp; refine hK.out _ ?_; clear hK K)
                    refine wpGrow_nil fun wx he hfin => ?_
                    clear hfin
                    have HB9 := Lib.hid (HBB.out.trans (he.mono HBB.out.size))
                    clear he
                    go_wp2_with fail
                    go_ret
                    rw [HF.out]
                    exact ⟨rfl, HB9.out⟩
                  · have hd2 : decide ((64 : Int) < ((r.txt c.toNat).size : Int)) = false := by simp; omega
                    have HAN := Lib.hid (show (ls.take (j + 1)).any r.badText = false by rw [HAS.out, HA0.out]; unfold Rc.badText; rw [HT.out, decide_eq_false h1, decide_eq_false h2]; rfl)
                    clear h1 h2
                    go_wp2_with fail
                    refine wp_region_grow (fun k' => List.lookup k' [(2, (.fix (.int .u8 (c.toNat : Nat)))), (3, (.fix (.bool true))), (5, (.fix (.agg r.cells))), (8, (.fix (.int .u8 (c.toNat : Nat)))), (9, (.fix (.string (r.txt c.toNat)))), (13, (.fix (.agg r.cells))), (16, (.fix (.int .u8 (c.toNat : Nat)))), (17, (.fix (.string (r.txt c.toNat))))]) (by as_aux_lemma => kernel_rfl) (by as_aux_lemma => kernel_rfl) ?_
                    repeat (refine wpGrow_pure rfl (fun K hK => ?_); go_simp; refine hK.out _ ?_; clear hK K)
                    refine wpGrow_eff _ rfl (fun wx he hcl => ?_) (fun _ K hK => ?_) rfl
                    · clear hcl
                      exact growAt_index rfl rfl rfl Try.underlying9 HCJ.out
                    go_simp
                    refine hK.out _ ?_
                    clear hK K
                    repeat (refine wpGrow_pure rfl (fun K hK => ?_); go_simp; refine hK.out _ ?_; clear hK K)
                    refine wpGrow_eff _ rfl (fun wx he hcl => ?_) (fun _ K hK => ?_) rfl
                    · clear hcl
                      have hcon := (show Calls Try.prog 25 #[.int .u8 (c.toNat : Nat)] wx (fun en w' => en = .returned (.bool true) ∧ Below wx.heap.size wx w') from by have := isText_any wx c.toNat; rwa [HT.out] at this)
                      go_simp
                      try exact hcon
                    go_simp
                    refine hK.out _ ?_
                    clear hK K
                    repeat (refine wpGrow_pure rfl (fun K hK => ?_); go_simp; refine hK.out _ ?_; clear hK K)
                    refine wpGrow_eff _ rfl (fun wx he hcl => ?_) (fun _ K hK => ?_) rfl
                    · clear hcl
                      exact growAt_load_row rfl rfl (HW1.out.below he HW1.out.lt) Try.underlying31 rfl (rrec_size _)
                    go_simp
                    refine hK.out _ ?_
                    clear hK K
                    repeat (refine wpGrow_pure rfl (fun K hK => ?_); go_simp; refine hK.out _ ?_; clear hK K)
                    refine wpGrow_eff _ rfl (fun wx he hcl => ?_) (fun _ K hK => ?_) rfl
                    · clear hcl
                      exact growAt_index rfl rfl rfl Try.underlying9 HCJ.out
                    go_simp
                    refine hK.out _ ?_
                    clear hK K
                    repeat (refine wpGrow_pure rfl (fun K hK => ?_); go_simp; refine hK.out _ ?_; clear hK K)
                    refine wpGrow_eff _ rfl (fun wx he hcl => ?_) (fun _ K hK => ?_) rfl
                    · clear hcl
                      have hcon := textOf_any wx r c.toNat
                      go_simp
                      try exact hcon
                    go_simp
                    refine hK.out _ ?_
                    clear hK K
                    repeat (refine wpGrow_pure rfl (fun K hK => ?_); go_simp; refine hK.out _ ?_; clear hK K)
                    refine wpGrow_eff _ rfl (fun wx he hcl => ?_) (fun _ K hK => ?_) rfl
                    · clear hcl
                      exact growAt_load_row rfl rfl (HW1.out.below he HW1.out.lt) Try.underlying31 rfl (rrec_size _)
                    go_simp
                    refine hK.out _ ?_
                    clear hK K
                    repeat (refine wpGrow_pure rfl (fun K hK => ?_); go_simp; refine hK.out _ ?_; clear hK K)
                    refine wpGrow_eff _ rfl (fun wx he hcl => ?_) (fun _ K hK => ?_) rfl
                    · clear hcl
                      exact growAt_index rfl rfl rfl Try.underlying9 HCJ.out
                    go_simp
                    refine hK.out _ ?_
                    clear hK K
                    repeat (refine wpGrow_pure rfl (fun K hK => ?_); go_simp; refine hK.out _ ?_; clear hK K)
                    refine wpGrow_eff _ rfl (fun wx he hcl => ?_) (fun _ K hK => ?_) rfl
                    · clear hcl
                      have hcon := textOf_any wx r c.toNat
                      go_simp
                      try exact hcon
                    go_simp
                    refine hK.out _ ?_
                    clear hK K
                    repeat (refine wpGrow_pure rfl (fun K hK => ?_); go_simp; refine hK.out _ ?_; clear hK K)
                    refine wpGrow_nil fun wx he hfin => ?_
                    clear hfin
                    have HX9 := Lib.hid (HX.out.below he HX.out.lt)
                    have HW9 := Lib.hid (HW1.out.below he HW1.out.lt)
                    have HB9 := Lib.hid (HBB.out.trans (he.mono HBB.out.size))
                    clear he
                    go_wp2_with fail
                    go_roundw
                    case rel => exact ⟨j + 1, by omega, by first | rfl | go_num, HW9, (by rw [HTK.out, Rc.told_snoc, HXE.out]; exact HX9), HAN, HB9⟩
                    case measure => simp [intOf] <;> omega
            · obtain rfl : j = ls.length := by omega
              have hd : decide ((ls.length : Int) < (ls.length : Int)) = false := by simp
              have ht : ls.take ls.length = ls := List.take_length
              rw [ht] at HX0 HA0
              have HE := Lib.hid (show r.rright = (r.told ls).eqB r by rw [HR.out, HA0.out]; simp)
              obtain ⟨xr, hx⟩ : ∃ x, r.told ls = x := ⟨_, rfl⟩
              rw [hx] at HX0 HE
              have heq : ∀ w : World, (binOp .eql 31 (.agg xr.cells) (.agg r.cells)).run Try.prog w = .ok (.bool (xr.eqB r)) w := fun w => rrec_eq w _ _
              have hgd := rrec_guard
              clear ht hx hlt hj
              go_wp2_with (first
                | (refine wpList_load_row rfl 31 (.tmp 4) rfl g4 rfl 31 xr.cells (0, 0) _ ?_ Try.underlying31 rfl (rrec_size xr) ?_; · exact HX0.out)
                | (refine wpList_load_row rfl 31 (.tmp 1) rfl w.heap.size rfl 31 r.cells (0, 0) _ ?_ Try.underlying31 rfl (rrec_size r) ?_; · exact HW1.out))
              go_ret
              rw [HE.out]
              exact ⟨rfl, HBB.out⟩
end Go.Proofs.Ytmobgamlednlhaa
