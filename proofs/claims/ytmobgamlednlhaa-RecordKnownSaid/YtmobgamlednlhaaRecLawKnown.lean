/-
  Records: the law RecordKnown.
-/
import Derived.Test.YtmobgamlednlhaaRecLawBack
import Derived.Test.YtmobgamlednlhaaRecLawReads
import Derived.Test.YtmobgamlednlhaaRecLawBodies
import Derived.Test.YtmobgamlednlhaaRecEx
import Derived.Test.YtmobgamlednlhaaRecOdd
import Derived.ArgAppend
namespace Go.Proofs.Ytmobgamlednlhaa
open Go.RowKit
theorem pow_byte (m : Nat) (h : m < 8) : UInt8.ofNat (2 ^ m) ≠ 0 ∧ ((UInt8.ofNat (2 ^ m)).toNat : Int) = 2 ^ m % 256 := by
  have : m = 0 ∨ m = 1 ∨ m = 2 ∨ m = 3 ∨ m = 4 ∨ m = 5 ∨ m = 6 ∨ m = 7 := by omega
  rcases this with rfl | rfl | rfl | rfl | rfl | rfl | rfl | rfl <;> decide
theorem rd_whole {w : World} {g n : Nat} {t : TypeId} {cur : Array Value} {xs : List UInt8} {j : Nat} {y : UInt8} (hw : Whole w g t cur) (ht : cur.toList.take n = byts (xs.set j y)) (hl : xs.length = n) :
    Rd w w.heap.size 1 (some ⟨g, 0, none⟩) n (byts (xs.set j y)) := by
  rw [← ht]
  refine Rd.of_heap hw hw.lt ?_
  have h1 : (cur.toList.take n).length = n := by rw [ht, byts_length, List.length_set, hl]
  rw [List.length_take] at h1
  simp at h1
  omega
/-- append of one byte onto a part of a row behind which there is room: it is written in place. -/
theorem wpList_append_roomg {P : Program} {w : World} {ops : Array Oper} {rest : List Oper} {o : Oper} {a : Act} {Q : Exit → Act → World → Prop} (hwn : Region.wanted o (yielded ops a.tmps) = true) (s x : Operand) (t : TypeId)
    (ho : o.op = .call { callee := .builtin .append, args := #[s, x], argTypes := #[t, t] })
    {e : TypeId} (he : ElemOK P t e 1 1) (g off n c : Nat) (hs : a.eval s = .slice (some ⟨g, off, none⟩) n c) (cur : Array Value) (hw : Whole w g e cur)
    (ad : Addr) (c' : Nat) (v : Value) (hx : a.eval x = .slice (some ad) 1 c') (hv : w.cell? ad = some v) (h1 : v.oneCell' = true)
    (hroom : n + 1 ≤ c) (hfit : off + n < cur.size)
    (h : wpList P ops Q rest (a.put o.dst (.slice (some ⟨g, off, none⟩) (n + 1) c)) (w.setCell ⟨g, off + n, none⟩ v)) : wpList P ops Q (o :: rest) a w := by
  refine wpList_step fun _ hK => ?_
  rw [if_pos hwn]
  obtain ⟨ht, i, z, hi, hz, hsize, hby, hzs, hsz⟩ := he
  have hrun := run_append_room_cells (P := P) w t o.type e i ht hi g off n c ad 1 c' [v] (by simp [hsize]) (fun j u hu => by
      cases j with
      | zero => simp at hu; subst hu; simpa [Addr.add] using hv
      | succ j => simp at hu) (fun u hu => by simp at hu; subst hu; exact h1) hroom
    (fun j hj => by
      have h0 : j = 0 := by simp at hj; omega
      subst h0
      rw [hsize, Nat.mul_one, Nat.add_zero, hw.cell, Array.getElem?_eq_getElem hfit]
      rfl) (fun j _ => by rw [hsize]; exact hw.frozen _)
  rw [hsize, Nat.mul_one] at hrun
  unfold Oper.wp execOp
  simp only [ho, resolve, invoke, builtin, Sem.run_bind, Sem.run_pure, Result.andThen_ok, List.map_toArray, List.map_cons, List.map_nil, hs, hx, hrun]
  exact hK _ _ h
attribute [local go_sem] Instr.makeFunc Oper.growAt Oper.growUpon GSpec.fix GSpec.row GSpec.wh GSpec.own GSpec.box GSpec.kmap GSpec.lk GSpec.lk1 GSpec.put match_undef
attribute [local irreducible] wpList
set_option maxRecDepth 100000 in
set_option maxHeartbeats 16000000 in
theorem recKnown_any (w : World) : Calls Try.prog 7 #[] w fun en w' => en = .returned (.bool true) ∧ Below w.heap.size w w' := by
  have HB := Lib.hid (Below.refl w.heap.size w)
  go_enter Try.func7, Try.ntmps7
  go_wp2_with fail
  go_loopw [1] (fun n wr => ∃ k : Nat, k ≤ 14 ∧ n = .int .u8 k ∧ Hid (Below w.heap.size w wr)) (fun n _ => 14 - (intOf n).toNat)
  case atStart => exact ⟨0, by omega, rfl, HB⟩
  case round =>
    clear HB
    obtain ⟨k, hk, rfl, HB⟩ := hrel
    by_cases hlt : k < 14
    · have hd : decide ((k : Int) < 14) = true := by simp; omega
      have wk : IntKind.u8.wrap ((k : Int) + 1) = ((k + 1 : Nat) : Int) := by rw [IntKind.wrap_u8]; omega
      obtain ⟨x, hx, hx1, hx2, hxc⟩ := example_any k (by omega)
      obtain ⟨z, hz, _, _, hzc⟩ := example_any (k + 1) (by omega)
      have HX := Lib.hid hx
      have HX1 := Lib.hid hx1
      have HX2 := Lib.hid hx2
      have HZ := Lib.hid hz
      have HEZ := Lib.hid hzc
      clear hx hx1 hx2 hz hzc
      go_wp2_with fail
      refine (hxc wr).mono ?_
      clear hxc
      rintro en w1 ⟨rfl, hb⟩
      replace HB := Lib.hid (HB.out.trans (hb.mono HB.out.size))
      clear hb
      go_wp2_with (refine wpList_store_row rfl 24 (.tmp 2) (.tmp 13) rfl w1.heap.size x.cells rfl rfl 24 _ (Whole.new _ _ _) (rec_size _) rfl (rec_cells _) ?_)
      have g1 := (Whole.new w1 24 #[.int .u8 0, .int .u64 0, .int .u64 0, .int .u64 0, .int .u64 0, .int .u64 0, .int .u64 0, .int .u64 0, .int .u64 0, .int .u64 0, .string ⟨#[]⟩, .string ⟨#[]⟩]).row x.cells
      have g2 := Below.setRow ((Below.refl w1.heap.size w1).alloc (Nat.le_refl _) (.cells #[.int .u8 0, .int .u64 0, .int .u64 0, .int .u64 0, .int .u64 0, .int .u64 0, .int .u64 0, .int .u64 0, .int .u64 0, .int .u64 0, .string ⟨#[]⟩, .string ⟨#[]⟩] 24)) (g := w1.heap.size) (Nat.le_refl _) x.cells
      replace HB := Lib.hid (HB.out.trans (g2.mono HB.out.size))
      have XH := Lib.hid g1
      clear g1 g2
      generalize World.setRow (w1.alloc (.cells #[.int .u8 0, .int .u64 0, .int .u64 0, .int .u64 0, .int .u64 0, .int .u64 0, .int .u64 0, .int .u64 0, .int .u64 0, .int .u64 0, .string ⟨#[]⟩, .string ⟨#[]⟩] 24)) w1.heap.size x.cells = w2 at *
      obtain ⟨g, hg⟩ : ∃ g, w1.heap.size = g := ⟨_, rfl⟩
      rw [hg] at XH ⊢
      clear hg
      go_loopw [3] (fun n wr => ∃ i : Nat, i ≤ 14 ∧ n = .int .i64 i ∧ Hid (Whole wr g 24 x.cells) ∧ Hid (Below w.heap.size w wr)) (fun n _ => 14 - (intOf n).toNat)
      case atStart => exact ⟨0, by omega, rfl, XH, HB⟩
      case round =>
        clear XH HB
        obtain ⟨i, hi, rfl, XH, HB⟩ := hrel
        by_cases hli : i < 14
        · have hdi : decide ((i : Int) < 14) = true := by simp; omega
          have wi : IntKind.i64.wrap ((i : Int) + 1) = ((i + 1 : Nat) : Int) := by rw [IntKind.wrap_i64]; omega
          obtain ⟨y, hy, hyc⟩ := odd_any x HX.out HX1.out HX2.out i
          have HY := Lib.hid hy
          have HODD := Lib.hid hyc
          clear hy hyc
          go_wp2_with fail
          refine wp_region_grow (fun k' => List.lookup k' [(0, (.fix (.agg x.cells))), (2, (.fix (.agg y.cells))), (3, (.fix (.bool true))), (6, (.fix (.agg x.cells))), (8, (.fix (.agg y.cells))), (9, (.fix (.agg x.cells))), (10, (.fix (.bool true)))]) (by as_aux_lemma => kernel_rfl) (by as_aux_lemma => kernel_rfl) ?_
          repeat (refine wpGrow_pure rfl (fun K hK => ?_); go_simp; refine hK.out _ ?_; clear hK K)
          refine wpGrow_eff _ rfl (fun wx he hcl => ?_) (fun _ K hK => ?_) rfl
          · clear hcl
            exact growAt_load_row rfl rfl (XH.out.below he XH.out.lt) Try.underlying24 rfl (rec_size _)
          go_simp
          refine hK.out _ ?_
          clear hK K
          repeat (refine wpGrow_pure rfl (fun K hK => ?_); go_simp; refine hK.out _ ?_; clear hK K)
          refine wpGrow_eff _ rfl (fun wx he hcl => ?_) (fun _ K hK => ?_) rfl
          · clear hcl
            have hcon := HODD.out wx
            go_simp
            try exact hcon
          go_simp
          refine hK.out _ ?_
          clear hK K
          repeat (refine wpGrow_pure rfl (fun K hK => ?_); go_simp; refine hK.out _ ?_; clear hK K)
          refine wpGrow_eff _ rfl (fun wx he hcl => ?_) (fun _ K hK => ?_) rfl
          · clear hcl
            have hcon := (show Calls Try.prog 3 #[.agg y.cells] wx (fun en w' => en = .returned (.bool true) ∧ Below wx.heap.size wx w') from recPuts_any wx y HY.out)
            go_simp
            try exact hcon
          go_simp
          refine hK.out _ ?_
          clear hK K
          repeat (refine wpGrow_pure rfl (fun K hK => ?_); go_simp; refine hK.out _ ?_; clear hK K)
          refine wpGrow_eff _ rfl (fun wx he hcl => ?_) (fun _ K hK => ?_) rfl
          · clear hcl
            exact growAt_load_row rfl rfl (XH.out.below he XH.out.lt) Try.underlying24 rfl (rec_size _)
          go_simp
          refine hK.out _ ?_
          clear hK K
          repeat (refine wpGrow_pure rfl (fun K hK => ?_); go_simp; refine hK.out _ ?_; clear hK K)
          refine wpGrow_eff _ rfl (fun wx he hcl => ?_) (fun _ K hK => ?_) rfl
          · clear hcl
            have hcon := HODD.out wx
            go_simp
            try exact hcon
          go_simp
          refine hK.out _ ?_
          clear hK K
          repeat (refine wpGrow_pure rfl (fun K hK => ?_); go_simp; refine hK.out _ ?_; clear hK K)
          refine wpGrow_eff _ rfl (fun wx he hcl => ?_) (fun _ K hK => ?_) rfl
          · clear hcl
            exact growAt_load_row rfl rfl (XH.out.below he XH.out.lt) Try.underlying24 rfl (rec_size _)
          go_simp
          refine hK.out _ ?_
          clear hK K
          repeat (refine wpGrow_pure rfl (fun K hK => ?_); go_simp; refine hK.out _ ?_; clear hK K)
          refine wpGrow_eff _ rfl (fun wx he hcl => ?_) (fun _ K hK => ?_) rfl
          · clear hcl
            have hcon := (show Calls Try.prog 6 #[.agg y.cells, .agg x.cells, .slice none 0 0] wx (fun en w' => en = .returned (.bool true) ∧ Below wx.heap.size wx w') from recBack_any wx y x HY.out HX.out none 0 0 [] (Rd.nil_ _ _ _ _) (Nat.le_refl _) (Nat.zero_le _))
            go_simp
            try exact hcon
          go_simp
          refine hK.out _ ?_
          clear hK K
          repeat (refine wpGrow_pure rfl (fun K hK => ?_); go_simp; refine hK.out _ ?_; clear hK K)
          refine wpGrow_nil fun wx he hfin => ?_
          clear hfin
          replace XH := Lib.hid (XH.out.below he XH.out.lt)
          replace HB := Lib.hid (HB.out.trans (he.mono HB.out.size))
          clear he
          go_wp2_with fail
          go_roundw
          case rel => exact ⟨i + 1, by omega, by first | rfl | go_num, XH, HB⟩
          case measure => simp [intOf] <;> omega
        · obtain rfl : i = 14 := by omega
          clear hi hli
          go_wp2_with (refine wpList_load_row rfl 24 (.tmp 2) rfl g rfl 24 x.cells (0, 0) _ ?_ Try.underlying24 rfl (rec_size _) ?_; · exact XH.out)
          refine (show Calls Try.prog 11 #[.agg x.cells] _ _ from ref_any _ x).mono ?_
          rintro en w3 ⟨rfl, hb⟩
          replace XH := Lib.hid (XH.out.below hb XH.out.lt)
          replace HB := Lib.hid (HB.out.trans (hb.mono HB.out.size))
          clear hb
          go_wp2_with fail
          refine (show Calls Try.prog 10 #[.agg x.cells] w3 (PutP x w3) from rput_rec_any w3 x HX.out).mono ?_
          rintro en w4 ⟨D, cc, rfl, ho, hb⟩
          have HCC := Lib.hid (own_cap ho)
          have HO := Lib.hid (own_base ho HB.out.size)
          replace XH := Lib.hid (XH.out.below hb XH.out.lt)
          replace HB := Lib.hid (HB.out.trans (hb.mono HB.out.size))
          clear ho hb
          obtain ⟨L, hL⟩ : ∃ L, x.putB.length = L := ⟨_, rfl⟩
          have HLL := Lib.hid (show L ≤ 800 by rw [← hL]; exact Rc.putB_length)
          have HL := Lib.hid hL
          rw [hL] at HCC HO ⊢
          clear hL
          go_wp2_with fail
          refine wp_region_grow (fun k' => List.lookup k' [(0, (.fix (.agg x.cells))), (1, (.fix (.bool true))), (4, (.fix (.agg x.cells))), (7, (.fix (.agg z.cells))), (9, (.fix (.bool true)))]) (by as_aux_lemma => kernel_rfl) (by as_aux_lemma => kernel_rfl) ?_
          repeat (refine wpGrow_pure rfl (fun K hK => ?_); go_simp; refine hK.out _ ?_; clear hK K)
          refine wpGrow_eff _ rfl (fun wx he hcl => ?_) (fun _ K hK => ?_) rfl
          · clear hcl
            exact growAt_load_row rfl rfl (XH.out.below he XH.out.lt) Try.underlying24 rfl (rec_size _)
          go_simp
          refine hK.out _ ?_
          clear hK K
          repeat (refine wpGrow_pure rfl (fun K hK => ?_); go_simp; refine hK.out _ ?_; clear hK K)
          refine wpGrow_eff _ rfl (fun wx he hcl => ?_) (fun _ K hK => ?_) rfl
          · clear hcl
            have hcon := (show Calls Try.prog 3 #[.agg x.cells] wx (fun en w' => en = .returned (.bool true) ∧ Below wx.heap.size wx w') from recPuts_any wx x HX.out)
            go_simp
            try exact hcon
          go_simp
          refine hK.out _ ?_
          clear hK K
          repeat (refine wpGrow_pure rfl (fun K hK => ?_); go_simp; refine hK.out _ ?_; clear hK K)
          refine wpGrow_eff _ rfl (fun wx he hcl => ?_) (fun _ K hK => ?_) rfl
          · clear hcl
            exact growAt_load_row rfl rfl (XH.out.below he XH.out.lt) Try.underlying24 rfl (rec_size _)
          go_simp
          refine hK.out _ ?_
          clear hK K
          repeat (refine wpGrow_pure rfl (fun K hK => ?_); go_simp; refine hK.out _ ?_; clear hK K)
          refine wpGrow_eff _ rfl (fun wx he hcl => ?_) (fun _ K hK => ?_) rfl
          · clear hcl
            have hcon := HEZ.out wx
            go_simp
            try exact hcon
          go_simp
          refine hK.out _ ?_
          clear hK K
          repeat (refine wpGrow_pure rfl (fun K hK => ?_); go_simp; refine hK.out _ ?_; clear hK K)
          refine wpGrow_eff _ rfl (fun wx he hcl => ?_) (fun _ K hK => ?_) rfl
          · clear hcl
            have hcon := (show Calls Try.prog 6 #[.agg x.cells, .agg z.cells, .slice D L cc] wx (fun en w' => en = .returned (.bool true) ∧ Below wx.heap.size wx w') from recBack_any wx x z HX.out HZ.out D L cc x.putB (Rd.of_own (own_ext HO.out he)) HCC.out.1 HCC.out.2)
            go_simp
            try exact hcon
          go_simp
          refine hK.out _ ?_
          clear hK K
          repeat (refine wpGrow_pure rfl (fun K hK => ?_); go_simp; refine hK.out _ ?_; clear hK K)
          refine wpGrow_nil fun wx he hfin => ?_
          clear hfin
          replace HO := Lib.hid (own_ext HO.out he)
          replace HB := Lib.hid (HB.out.trans (he.mono HB.out.size))
          clear he XH
          go_wp2_with fail
          go_loopw [6] (fun n wr => ∃ i : Nat, i ≤ L ∧ n = .int .i64 i ∧ Hid (wr.ownsRow w.heap.size 5 1 (.slice D L cc) L (byts x.putB)) ∧ Hid (Below w.heap.size w wr)) (fun n _ => L - (intOf n).toNat)
          case atStart => exact ⟨0, by omega, rfl, HO, HB⟩
          case round =>
            clear HO HB
            obtain ⟨i, hi, rfl, HO, HB⟩ := hrel
            by_cases hli : i < L
            · have hdi : decide ((i : Int) < (L : Int)) = true := by simp; omega
              have wi : IntKind.i64.wrap ((i : Int) + 1) = ((i + 1 : Nat) : Int) := by rw [IntKind.wrap_i64]; have := HLL.out; omega
              go_wp2_with (at_builtin; refine wpList_append_rd _ rfl (.tmp 55) (.tmp 56) _ rfl bytesV wr.heap.size _ 0 [] rfl (World.ownsRow_nil _ _ _ _) wr.heap.size D L cc _ rfl (Rd.of_own HO.out) (byts_one _) (by have := HLL.out; unfold maxLen; omega) (by have := HLL.out; omega) (Nat.le_refl _) ?_; intro O cO wc ho hb _ _)
              rw [Nat.zero_add, List.nil_append] at ho
              have HCO := Lib.hid (own_cap ho)
              obtain ⟨gc, cur, hO, hgB, hw, htake⟩ := own_whole ho (by omega)
              rw [Nat.mul_one] at htake
              have hj : i < x.putB.length := by rw [HL.out]; exact hli
              have HOf := Lib.hid (own_ext HO.out hb)
              have hbw := HB.out.trans (hb.mono HB.out.size)
              have hgz := HB.out.size
              obtain ⟨q, hq⟩ : ∃ q, q = x.putB[i].toNat := ⟨_, rfl⟩
              have hcell : wc.cell? ⟨gc, i, none⟩ = some (.int .u8 (q : Nat)) := by rw [hq]; exact hw.byte htake hli hj
              have hfr := hw.frozen i
              have hp := pow_byte (i % 8) (by omega)
              obtain ⟨v, hv⟩ : ∃ v : UInt8, v = x.putB[i] ^^^ UInt8.ofNat (2 ^ (i % 8)) := ⟨_, rfl⟩
              have e1 : bits BinOp.xor IntKind.u8 (↑q) (2 ^ (i % 8) % 256) = ((v.toNat : Nat) : Int) := by
                rw [hq, hv, UInt8.toNat_xor, ← u8_xor_nat _ _ (Crc.byte_lt _) (Crc.byte_lt _), hp.2]
              obtain ⟨cur2, hw2, ht3, hb2⟩ := put_byte (B := wr.heap.size) (j := i) v hw htake hgB
              have hof := own_far (p := ⟨gc, i, none⟩) HOf.out (fun b hb => by have := (own_lt HO.out b hb).2; show b ≠ gc; omega) (.int .u8 (v.toNat : Int))
              have hbf := (hbw.trans (hb2.mono hgz))
              rw [hO]
              clear ho hb hw htake hO hq hv hp HO HB HOf hbw hb2 hgz hj
              have d1 : (0 : Int) ≤ (i : Int) := by omega
              have d2 : (i : Int) < (L : Int) := by omega
              go_region
              generalize wc.setCell ⟨gc, i, none⟩ (.int .u8 (v.toNat : Int)) = w5' at *
              obtain ⟨w5, hw5e⟩ : ∃ w5, w5 = w5'.drew := ⟨_, rfl⟩
              have HOB := Lib.hid (show w5.ownsRow w.heap.size 5 1 (.slice D L cc) L (byts x.putB) by rw [hw5e]; exact hof)
              have HB := Lib.hid (show Below w.heap.size w w5 by rw [hw5e]; exact hbf.drew)
              have RC := Lib.hid (rd_whole (show Whole w5 gc 5 cur2 by rw [hw5e]; exact hw2) ht3 HL.out)
              rw [← hw5e]
              clear hw5e hof hbf hw2 ht3 hcell hfr e1 hgB
              obtain ⟨V, hV⟩ : ∃ V, x.putB.set i v = V := ⟨_, rfl⟩
              obtain ⟨T, hT⟩ : ∃ T, w5.heap.size = T := ⟨_, rfl⟩
              have HT := Lib.hid (show T ≤ w5.heap.size by omega)
              rw [hV, hT] at RC
              clear hV hT
              have d3 : (i : Int) ≤ (cc : Int) := by have := HCC.out.1; omega
              have HCCL := Lib.hid HCC.out.1
              go_wp2_with fail
              refine (recReads_any w5 D i cc (x.putB.take i) ((Rd.of_own HOB.out).front hi) (by have := HCC.out.1; omega) HCC.out.2).mono ?_
              rintro en w6 ⟨rfl, hb⟩
              replace HOB := Lib.hid (own_ext HOB.out hb)
              replace RC := Lib.hid (RC.out.below (hb.mono HT.out))
              replace HT := Lib.hid (Nat.le_trans HT.out hb.size)
              replace HB := Lib.hid (HB.out.trans (hb.mono HB.out.size))
              clear hb
              go_wp2_with fail
              refine (recReads_any w6 _ L cO V (RC.out.more HT.out) HCO.out.1 HCO.out.2).mono ?_
              rintro en w7 ⟨rfl, hb⟩
              replace HOB := Lib.hid (own_ext HOB.out hb)
              replace RC := Lib.hid (RC.out.below (hb.mono HT.out))
              replace HT := Lib.hid (Nat.le_trans HT.out hb.size)
              replace HB := Lib.hid (HB.out.trans (hb.mono HB.out.size))
              clear hb
              by_cases h1 : 1 < i
              · have c1 : decide ((1 : Int) < (i : Int)) = true := by simp; omega
                by_cases h2 : i + 4 < L
                · have wl : IntKind.i64.wrap ((L : Int) - 4) = (L : Int) - 4 := by rw [IntKind.wrap_i64]; have := HLL.out; omega
                  have c2 : decide ((i : Int) < (L : Int) - 4) = true := by simp; omega
                  have d4 : (2 : Int) ≤ (L : Int) - 4 := by omega
                  have d5 : (L : Int) - 4 ≤ (cO : Int) := by have := HCO.out.1; omega
                  have d6 : (2 : Int) ≤ (i : Int) := by omega
                  have n1 : ¬ cO = 2 := by have := HCO.out.1; omega
                  have n2 : ¬ cc = 2 := by have := HCC.out.1; omega
                  have RM := Lib.hid (RC.out.mid (i := 2) (j := L - 4) (cap := cO) (by omega) (by omega) HCO.out.1)
                  rw [if_neg n1] at RM
                  clear h2
                  go_wp2_with fail
                  refine (recBodies_any w7 k (by omega) (some ⟨gc, 2, none⟩) (L - 4 - 2) (cO - 2) _ (RM.out.more HT.out)).mono ?_
                  clear RM
                  rintro en w8 ⟨rfl, hb⟩
                  replace HOB := Lib.hid (own_ext HOB.out hb)
                  replace RC := Lib.hid (RC.out.below (hb.mono HT.out))
                  replace HT := Lib.hid (Nat.le_trans HT.out hb.size)
                  replace HB := Lib.hid (HB.out.trans (hb.mono HB.out.size))
                  clear hb
                  obtain ⟨gb, _, hD, _, _⟩ := own_whole HOB.out (by omega)
                  have RB := Lib.hid ((Rd.of_own HOB.out).mid (i := 2) (j := i) (cap := cc) (by omega) (by omega) HCC.out.1)
                  rw [if_neg n2, hD] at RB
                  subst hD
                  go_wp2_with fail
                  refine (recBodies_any w8 k (by omega) (some ⟨gb, 2, none⟩) (i - 2) (cc - 2) _ RB.out).mono ?_
                  clear RB
                  rintro en w9 ⟨rfl, hb⟩
                  replace HOB := Lib.hid (own_ext HOB.out hb)
                  replace RC := Lib.hid (RC.out.below (hb.mono HT.out))
                  replace HT := Lib.hid (Nat.le_trans HT.out hb.size)
                  replace HB := Lib.hid (HB.out.trans (hb.mono HB.out.size))
                  clear hb
                  go_wp2_with fail
                  go_roundw
                  case rel => exact ⟨i + 1, by omega, by first | rfl | go_num, HOB, HB⟩
                  case measure => simp [intOf] <;> omega
                · have wl : IntKind.i64.wrap ((L : Int) - 4) = (L : Int) - 4 := by rw [IntKind.wrap_i64]; have := HLL.out; omega
                  have c2 : decide ((i : Int) < (L : Int) - 4) = false := by simp; omega
                  go_wp2_with fail
                  go_roundw
                  case rel => exact ⟨i + 1, by omega, by first | rfl | go_num, HOB, HB⟩
                  case measure => simp [intOf] <;> omega
              · have c1 : decide ((1 : Int) < (i : Int)) = false := by simp; omega
                go_wp2_with fail
                go_roundw
                case rel => exact ⟨i + 1, by omega, by first | rfl | go_num, HOB, HB⟩
                case measure => simp [intOf] <;> omega
            · obtain rfl : i = L := by omega
              clear hi hli
              by_cases h6 : 6 < i
              · have c6 : decide ((6 : Int) < (i : Int)) = true := by simp; omega
                have wl : IntKind.i64.wrap ((i : Int) - 4) = (i : Int) - 4 := by rw [IntKind.wrap_i64]; have := HLL.out; omega
                have d4 : (2 : Int) ≤ (i : Int) - 4 := by omega
                have d5 : (i : Int) - 4 ≤ (cc : Int) := by have := HCC.out.1; omega
                have n2 : ¬ cc = 2 := by have := HCC.out.1; omega
                obtain ⟨gb, cur, hD, hgB, hw, htake⟩ := own_whole HO.out (by omega)
                rw [Nat.mul_one] at htake
                subst hD
                have hsz : i ≤ cur.size := by
                  have h1 : (cur.toList.take i).length = i := by rw [htake, byts_length, HL.out]
                  rw [List.length_take] at h1
                  simp at h1
                  omega
                have hwa := hw.alloc (.cells #[.int .u8 0] 5)
                obtain ⟨cur2, hw2, ht3, hb2⟩ := put_byte (B := w.heap.size) (j := i - 4) 0 hwa htake hgB
                have hrd := (rd_whole hw2 ht3 HL.out).mid (i := 2) (j := i - 3) (cap := cc) (by omega) (by omega) HCC.out.1
                rw [if_neg n2, show i - 3 - 2 = i - 4 - 2 + 1 by omega] at hrd
                have HRD := Lib.hid hrd
                have HB2 := Lib.hid ((HB.out.alloc HB.out.size (.cells #[.int .u8 0] 5)).trans hb2)
                have HWA := Lib.hid hwa
                have HSZ := Lib.hid hsz
                have HNC := Lib.hid (Whole.new wr 5 #[.int .u8 0])
                clear hrd hw2 ht3 hb2 hwa hw htake hgB hsz HO HB
                go_wp2_with (at_builtin; refine wpList_append_roomg rfl (.tmp 117) (.tmp 118) 27 rfl bytesV gb 2 (i - 4 - 2) (cc - 2) rfl cur HWA.out ⟨wr.heap.size, 0, none⟩ 1 (.int .u8 0) rfl (HNC.out.cell 0) rfl (by have := HCC.out.1; omega) (by have := HSZ.out; omega) ?_)
                rw [show 2 + (i - 4 - 2) = i - 4 by omega]
                have ez : (((0 : UInt8).toNat : Nat) : Int) = 0 := rfl
                rw [ez] at HRD HB2
                generalize (wr.alloc (.cells #[.int .u8 0] 5)).setCell ⟨gb, i - 4, none⟩ (.int .u8 0) = W6 at HRD HB2 ⊢
                refine (recBodies_any W6 k (by omega) (some ⟨gb, 2, none⟩) (i - 4 - 2 + 1) (cc - 2) _ HRD.out).mono ?_
                rintro en w9 ⟨rfl, hb⟩
                have HB9 := Lib.hid (HB2.out.trans (hb.mono HB2.out.size))
                clear hb HWA HNC HRD ez
                go_wp2_with fail
                go_roundw
                case rel => exact ⟨k + 1, by omega, by first | rfl | go_num, HB9⟩
                case measure => simp [intOf] <;> omega
              · have c6 : decide ((6 : Int) < (i : Int)) = false := by simp; omega
                go_wp2_with fail
                go_roundw
                case rel => exact ⟨k + 1, by omega, by first | rfl | go_num, HB⟩
                case measure => simp [intOf] <;> omega
    · obtain rfl : k = 14 := by omega
      clear hk hlt
      go_wp2_with fail
      refine (recReads_any wr none 0 0 [] (Rd.nil_ _ _ _ _) (Nat.le_refl _) (Nat.zero_le _)).mono ?_
      rintro en v1 ⟨rfl, hb⟩
      replace HB := Lib.hid (HB.out.trans (hb.mono HB.out.size))
      clear hb
      go_wp2_with fail
      refine (show Calls Try.prog 5 #[.int .u8 1, .slice none 0 0] v1 (fun en w' => en = .returned (.bool true) ∧ Below v1.heap.size v1 w') from recBodies_any v1 1 (by omega) none 0 0 [] (Rd.nil_ _ _ _ _)).mono ?_
      rintro en v2 ⟨rfl, hb⟩
      replace HB := Lib.hid (HB.out.trans (hb.mono HB.out.size))
      clear hb
      have HR4 := Lib.hid (Rd.newb v2 5 [0, 0, 0, 0] #[.int .u8 0, .int .u8 0, .int .u8 0, .int .u8 0] 4 rfl rfl)
      have HB4 := Lib.hid (HB.out.alloc HB.out.size (.cells #[.int .u8 0, .int .u8 0, .int .u8 0, .int .u8 0] 5))
      go_wp2_with fail
      refine (show Calls Try.prog 5 #[.int .u8 9, .slice (some ⟨v2.heap.size, 0, none⟩) 4 4] (v2.alloc (.cells #[.int .u8 0, .int .u8 0, .int .u8 0, .int .u8 0] 5)) _ from recBodies_any _ 9 (by omega) (some ⟨v2.heap.size, 0, none⟩) 4 4 [0, 0, 0, 0] (HR4.out.more (by simp))).mono ?_
      rintro en v3 ⟨rfl, hb⟩
      replace HB4 := Lib.hid (HB4.out.trans (hb.mono HB4.out.size))
      clear hb
      go_wp2_with fail
      refine (rworks_any v3).mono ?_
      rintro en v4 ⟨rfl, hb⟩
      replace HB4 := Lib.hid (HB4.out.trans (hb.mono HB4.out.size))
      clear hb
      go_wp2_with fail
      go_ret
      exact ⟨rfl, HB4.out⟩
end Go.Proofs.Ytmobgamlednlhaa
