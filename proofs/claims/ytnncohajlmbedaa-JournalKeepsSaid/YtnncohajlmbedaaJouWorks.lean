/-
  Journals: the law's examples.
-/
import Derived.Test.YtnncohajlmbedaaJouGet
import Derived.Test.YtnncohajlmbedaaGrowM
namespace Go.Proofs.Ytnncohajlmbedaa
open Go.RowKit
theorem Rd.newm (w : World) (t : TypeId) (fr : Nat × Nat) (l : List UInt8) (cs : Array Value) (L : Nat) (h : byts l = cs.toList) (hL : l.length = L) : Rd (w.alloc (.cells cs t fr)) (w.heap.size + 1) 1 (some ⟨w.heap.size, 0, none⟩) L (byts l) := by
  have h1 : cs.size = L := by have := congrArg List.length h; rw [byts_length] at this; simpa [hL] using this.symm
  have h2 := Rd.of_heap (B := w.heap.size + 1) (n := L) (heap_alloc_new w (.cells cs t fr)) (Nat.lt_succ_self _) (by omega)
  rw [h]
  rwa [List.take_of_length_le (by simp; omega)] at h2
theorem RdRows.of2 {w : World} {g B : Nat} {t : TypeId} {A A' : Option Addr} {m c m' c' : Nat} {l l' : List UInt8} (hw : Whole w g t #[.slice A m c, .slice A' m' c']) (hg : g < B)
    (h1 : m ≤ c ∧ c ≤ maxLen) (h : Rd w B 1 A m (byts l)) (h1' : m' ≤ c' ∧ c' ≤ maxLen) (h' : Rd w B 1 A' m' (byts l')) : RdRows w B (some ⟨g, 0, none⟩) 2 [l, l'] := by
  refine ⟨rfl, fun k hk => ?_⟩
  have hk3 : k = 0 ∨ k = 1 := by omega
  rcases hk3 with rfl | rfl
  · exact ⟨g, 0, A, m, c, rfl, hg, hw.cell 0, h1.1, h1.2, h⟩
  · exact ⟨g, 0, A', m', c', rfl, hg, hw.cell 1, h1'.1, h1'.2, h'⟩
def W14 : List UInt8 := [9, 2, 97, 98, 112, 142, 202, 63, 9, 0, 29, 44, 215, 127]
def W15 : List UInt8 := [9, 2, 97, 98, 112, 142, 202, 63, 9, 1, 99, 32, 247, 64, 156]
theorem je1 : Fra.joinB (Jou.frs [[97, 98], []]) = W14 := by decide +kernel
theorem je2 : Fra.joinE (Jou.frs [[97, 98], []]) = 0 := by decide +kernel
theorem je3 : (Jou.all W14).2 = 14 := by decide +kernel
theorem je4 : (Jou.all (W14.take 13)).2 = 8 := by decide +kernel
theorem je5 : Jou.appB (W14.take 13) [99] = W15 := by decide +kernel
theorem je6 : Jou.appK (W14.take 13) [99] = 8 := by decide +kernel
theorem je7 : Jou.appN [99] = 1 := by decide +kernel
theorem je8 : Jou.appS [99] = 552285127 := by decide +kernel
theorem je9 : Jou.appE [99] = 0 := by decide +kernel
theorem je10 : Crc.update 0 [99] = 552285127 := by decide +kernel
theorem je11 : Jou.get W15 8 1 552285127 = ([99], 0) := by decide +kernel
theorem je12 : Jou.get W15 0 1 552285127 = ([], 110) := by decide +kernel
attribute [local go_sem] GM.Oper.growAt GM.Oper.growUpon GM.GSpec.fix GM.GSpec.by mkMv match_undef Oper.growAt Oper.growUpon GSpec.fix GSpec.row GSpec.wh GSpec.own jref_guard jref_eql jref_neq jref_equalIn
attribute [local irreducible] wpList

set_option maxRecDepth 100000 in
set_option maxHeartbeats 20000000 in
theorem jworks_any (w : World) : Calls Try.prog 46 #[] w fun en w' => en = .returned (.bool true) ∧ Below w.heap.size w w' := by
  have kc := fun (w : World) (C : Array Value) (n c : Nat) => Lib.run_convert_bytes_const (P := Try.prog) w 22 5 C n c Try.underlying22 Try.underlying5
  have kc2 := fun (w : World) (o : Obj) (C : Array Value) (n c : Nat) => Lib.run_convert_bytes_const (P := Try.prog) (w.alloc o) 22 5 C n c Try.underlying22 Try.underlying5
  simp only [World.size_alloc] at kc2
  go_enter Try.func46, Try.ntmps46
  go_wp2_with fail
  have r1 := (Rd.newm w 5 (2, 3) [97, 98] #[.int .u8 97, .int .u8 98] 2 rfl rfl).alloc (by simp) (.cells #[.slice (some ⟨w.heap.size, 0, none⟩) 2 2, .slice none 0 0] 22)
  have k1 := Whole.new (w.alloc (.cells #[.int .u8 97, .int .u8 98] 5 (2, 3))) 22 #[.slice (some ⟨w.heap.size, 0, none⟩) 2 2, .slice none 0 0]
  have hb := (below1 w (.cells #[.int .u8 97, .int .u8 98] 5 (2, 3))).trans ((below1 (w.alloc (.cells #[.int .u8 97, .int .u8 98] 5 (2, 3))) (.cells #[.slice (some ⟨w.heap.size, 0, none⟩) 2 2, .slice none 0 0] 22)).mono (by simp))
  have hz : w.heap.size + 1 < ((w.alloc (.cells #[.int .u8 97, .int .u8 98] 5 (2, 3))).alloc (.cells #[.slice (some ⟨w.heap.size, 0, none⟩) 2 2, .slice none 0 0] 22)).heap.size := by simp
  rw [World.size_alloc] at k1
  obtain ⟨g, hg⟩ : ∃ g, w.heap.size = g := ⟨_, rfl⟩
  have HG := Lib.hid hg
  rw [hg] at r1 k1 hb hz ⊢
  clear hg
  generalize (w.alloc (.cells #[.int .u8 97, .int .u8 98] 5 (2, 3))).alloc (.cells #[.slice (some ⟨g, 0, none⟩) 2 2, .slice none 0 0] 22) = w1 at *
  have hput := jput_any w1 (some ⟨g + 1, 0, none⟩) 2 2 [[97, 98], []] w1.heap.size (Nat.le_refl _) (RdRows.of2 k1 hz ⟨Nat.le_refl _, by unfold maxLen; omega⟩ (r1.more (by omega)) ⟨Nat.le_refl _, Nat.zero_le _⟩ (Rd.nil_ _ _ _ _)) (by omega) (by intro l hl; simp at hl; rcases hl with rfl | rfl <;> simp)
  unfold BytP at hput
  rw [je1, je2, show W14.length = 14 from rfl] at hput
  refine hput.mono ?_
  clear hput k1 r1
  rintro en w2 ⟨D1, c1, rfl, ho1, hbn⟩
  have HO1 := Lib.hid ho1
  have HC1 := Lib.hid (own_cap ho1)
  replace hb := hb.trans (hbn.mono (by omega))
  have hz2 : g + 1 < w2.heap.size := Nat.lt_of_lt_of_le hz hbn.size
  clear ho1 hbn hz
  go_wp2_with fail
  have hwh := whole_any w2 D1 14 c1 W14 w2.heap.size (Nat.le_refl _) (Rd.of_own HO1.out) HC1.out.1 HC1.out.2 (by omega)
  rw [je3] at hwh
  refine hwh.mono ?_
  clear hwh
  rintro en w3 ⟨rfl, hbn⟩
  replace HO1 := Lib.hid (own_ext HO1.out hbn)
  replace hb := hb.trans (hbn.mono (by omega))
  have hz3 : g + 1 < w3.heap.size := Nat.lt_of_lt_of_le hz2 hbn.size
  have t0 : (13 : Int) ≤ (c1 : Int) := by have := HC1.out.1; omega
  clear hbn hz2
  go_wp2_with fail
  have hwh := whole_any w3 D1 13 c1 (W14.take 13) w3.heap.size (Nat.le_refl _) ((Rd.of_own HO1.out).front (j := 13) (by omega)) (by have := HC1.out.1; omega) HC1.out.2 (by omega)
  rw [je4] at hwh
  refine hwh.mono ?_
  clear hwh
  rintro en w4 ⟨rfl, hbn⟩
  replace HO1 := Lib.hid (own_ext HO1.out hbn)
  replace hb := hb.trans (hbn.mono (by omega))
  have hz4 : g + 1 < w4.heap.size := Nat.lt_of_lt_of_le hz3 hbn.size
  clear hbn hz3
  go_wp2_with fail
  have r2 := Rd.newm w4 5 (1, 2) [99] #[.int .u8 99] 1 rfl rfl
  have hbn := below1 w4 (.cells #[.int .u8 99] 5 (1, 2))
  replace HO1 := Lib.hid (own_ext HO1.out hbn)
  replace hb := hb.trans (hbn.mono (by omega))
  have hz5 : w4.heap.size + 1 ≤ (w4.alloc (.cells #[.int .u8 99] 5 (1, 2))).heap.size := by simp
  generalize hg4 : w4.heap.size = g4 at *
  generalize w4.alloc (.cells #[.int .u8 99] 5 (1, 2)) = w5 at *
  clear hbn hg4
  have happ := japp_any w5 D1 13 c1 (W14.take 13) w5.heap.size (Nat.le_refl _) ((Rd.of_own HO1.out).front (j := 13) (by omega)) (by have := HC1.out.1; omega) HC1.out.2 (by omega) (some ⟨g4, 0, none⟩) 1 1 [99] (r2.more hz5) (Nat.le_refl _) (by unfold maxLen; omega) (by omega)
  unfold AppP at happ
  rw [je5, je6, je7, je8, je9, show W15.length = 15 from rfl] at happ
  refine happ.mono ?_
  clear happ r2
  rintro en w6 ⟨D3, c3, rfl, ho3, hbn⟩
  have HO3 := Lib.hid ho3
  have HC3 := Lib.hid (own_cap ho3)
  replace hb := hb.trans (hbn.mono (by omega))
  have hz6 : g + 1 < w6.heap.size := by have := hbn.size; omega
  clear ho3 hbn hz5 hz4 HO1 HC1 t0
  go_wp2_with fail
  have k6 := (Whole.new w6 73 #[.int .u64 1, .int .u64 552285127]).alloc (.cells #[.int .u8 99] 5 (1, 2))
  have r6 := Rd.newm (w6.alloc (.cells #[.int .u64 1, .int .u64 552285127] 73)) 5 (1, 2) [99] #[.int .u8 99] 1 rfl rfl
  have hbn := (below1 w6 (.cells #[.int .u64 1, .int .u64 552285127] 73)).trans ((below1 (w6.alloc (.cells #[.int .u64 1, .int .u64 552285127] 73)) (.cells #[.int .u8 99] 5 (1, 2))).mono (by simp))
  rw [World.size_alloc] at r6
  replace HO3 := Lib.hid (own_ext HO3.out hbn)
  replace hb := hb.trans (hbn.mono (by omega))
  have hz7 : w6.heap.size + 1 + 1 ≤ ((w6.alloc (.cells #[.int .u64 1, .int .u64 552285127] 73)).alloc (.cells #[.int .u8 99] 5 (1, 2))).heap.size := by simp
  generalize hg6 : w6.heap.size = g6 at *
  generalize (w6.alloc (.cells #[.int .u64 1, .int .u64 552285127] 73)).alloc (.cells #[.int .u8 99] 5 (1, 2)) = w7 at *
  have K6 := Lib.hid k6
  clear hbn k6 hg6
  have hof := jof_any w7 (some ⟨g6 + 1, 0, none⟩) 1 1 [99] w7.heap.size (Nat.le_refl _) (r6.more hz7) (Nat.le_refl _) (by unfold maxLen; omega) (by omega)
  rw [je10] at hof
  refine hof.mono ?_
  clear hof r6
  rintro en w8 ⟨rfl, hbn⟩
  replace HO3 := Lib.hid (own_ext HO3.out hbn)
  replace K6 := Lib.hid (K6.out.below hbn K6.out.lt)
  replace hb := hb.trans (hbn.mono (by omega))
  have hz8 : g + 1 < w8.heap.size := by have := hbn.size; omega
  clear hbn hz7 hz6
  go_wp2_with fail
  have hget := jget_any w8 D3 15 c3 W15 w8.heap.size (Nat.le_refl _) (Rd.of_own HO3.out) HC3.out.1 HC3.out.2 (by omega) 8 (by omega) (by omega) 1 552285127 _ _ je11
  unfold BytP at hget
  refine hget.mono ?_
  clear hget
  rintro en w9 ⟨D7, c7, rfl, ho7, hbn⟩
  replace ho7 : w9.ownsRow w8.heap.size 5 1 (.slice D7 1 c7) 1 (byts [99]) := ho7
  have HO7 := Lib.hid ho7
  replace HO3 := Lib.hid (own_ext HO3.out hbn)
  replace K6 := Lib.hid (K6.out.below hbn K6.out.lt)
  replace hb := hb.trans (hbn.mono (by omega))
  have hz9 : g + 1 < w9.heap.size := by have := hbn.size; omega
  clear hbn hz8 ho7
  go_wp2_with fail
  have r6 := Rd.newm w9 5 (1, 2) [99] #[.int .u8 99] 1 rfl rfl
  have hbn := below1 w9 (.cells #[.int .u8 99] 5 (1, 2))
  replace HO3 := Lib.hid (own_ext HO3.out hbn)
  replace HO7 := Lib.hid (own_ext HO7.out hbn)
  replace K6 := Lib.hid (K6.out.below hbn K6.out.lt)
  replace hb := hb.trans (hbn.mono (by omega))
  have hz7 : w9.heap.size + 1 ≤ (w9.alloc (.cells #[.int .u8 99] 5 (1, 2))).heap.size := by simp
  generalize hg9 : w9.heap.size = g9 at *
  generalize w9.alloc (.cells #[.int .u8 99] 5 (1, 2)) = w10 at *
  clear hbn hg9
  have hof := jof_any w10 (some ⟨g9, 0, none⟩) 1 1 [99] w10.heap.size (Nat.le_refl _) (r6.more hz7) (Nat.le_refl _) (by unfold maxLen; omega) (by omega)
  rw [je10] at hof
  refine hof.mono ?_
  clear hof r6
  rintro en w11 ⟨rfl, hbn⟩
  replace HO3 := Lib.hid (own_ext HO3.out hbn)
  replace HO7 := Lib.hid (own_ext HO7.out hbn)
  replace K6 := Lib.hid (K6.out.below hbn K6.out.lt)
  replace hb := hb.trans (hbn.mono (by omega))
  have hz8 : g + 1 < w11.heap.size := by have := hbn.size; omega
  clear hbn hz7 hz9
  go_wp2_with fail
  have hget := jget_any w11 D3 15 c3 W15 w11.heap.size (Nat.le_refl _) (Rd.of_own HO3.out) HC3.out.1 HC3.out.2 (by omega) 0 (by omega) (by omega) 1 552285127 _ _ je12
  unfold BytP at hget
  refine hget.mono ?_
  clear hget
  rintro en w12 ⟨D9, c9, rfl, _, hbn⟩
  replace HO7 := Lib.hid (own_ext HO7.out hbn)
  replace K6 := Lib.hid (K6.out.below hbn K6.out.lt)
  replace hb := hb.trans (hbn.mono (by omega))
  clear hbn hz8 HO3
  go_wp2_with fail
  have HBW := Lib.hid (show g ≤ w12.heap.size by have h1 := hb.size; have h2 := HG.out; omega)
  have kd1 : (((1 : Int)) == 1 && ((552285127 : Int)) == 552285127) = true := by decide
  refine GM.wp_region_grow (M := mkMv g) (fun k' => List.lookup k' [(12, GM.GSpec.fix (.agg #[.int .u64 1, .int .u64 552285127])), (13, GM.GSpec.by (M := mkMv g) (0 : Nat) (fun q => .slice (some ⟨q, 0, none⟩) 1 1) (ConstRow g · #[.int .u8 99] 5) (fun _ _ _ h k => ConstRow.keep h k)), (14, GM.GSpec.by (M := mkMv g) (0 : Nat) (fun q => .slice (some ⟨q, 0, none⟩) 1 1) (ConstRow g · #[.int .u8 99] 5) (fun _ _ _ h k => ConstRow.keep h k)), (15, GM.GSpec.fix (.agg #[.int .u64 1, .int .u64 552285127])), (24, GM.GSpec.fix (.string ⟨#[99]⟩))]) (by as_aux_lemma => kernel_rfl) (by as_aux_lemma => kernel_rfl) ?_
  repeat (refine GM.wpGrow_pure rfl (fun K hK => ?_); go_simp; refine hK.out _ ?_; clear hK K)
  refine GM.wpGrow_eff _ rfl (fun wx he hcl => ?_) (fun _ K hK => ?_) rfl
  · clear hcl
    have hq0 := (Mk.cell he (p := ⟨g6, 0, none⟩) K6.out.lt).trans (K6.out.cell 0)
    have hq1 := (Mk.cell he (p := ⟨g6, 1, none⟩) K6.out.lt).trans (K6.out.cell 1)
    simp at hq0 hq1
    go_simp
    exact Mk.refl _ _
  go_simp
  refine hK.out _ ?_
  clear hK K
  repeat (refine GM.wpGrow_pure rfl (fun K hK => ?_); go_simp; refine hK.out _ ?_; clear hK K)
  refine GM.wpGrow_eff _ rfl (fun wx he hcl => ?_) (fun (g75 : Nat) K hK => ?_) rfl
  · clear hcl
    have hnw := ConstRow.new (B := g) (w := wx) (Nat.le_trans HBW.out he.below.size) #[.int .u8 99] 5
    have hex := Mk.ext (B := g) (below1 wx (.cells #[.int .u8 99] 5)) (Nat.le_trans HBW.out he.below.size)
    go_simp
    all_goals exact ⟨hnw, hex⟩
  go_simp
  refine hK.out _ ?_
  clear hK K
  repeat (refine GM.wpGrow_pure rfl (fun K hK => ?_); go_simp; refine hK.out _ ?_; clear hK K)
  refine GM.wpGrow_eff _ rfl (fun wx he hcl => ?_) (fun (g76 : Nat) K hK => ?_) rfl
  · have hx : ConstRow g g75 #[.int .u8 99] 5 wx := hcl.out 13 rfl
    clear hcl
    obtain ⟨wy, hy1, hy2, hy3⟩ := run_mark (P := Try.prog) 22 5 1 1 Try.underlying22 Try.underlying5 hx
    go_simp
    all_goals exact ⟨hy2, hy3⟩
  go_simp
  refine hK.out _ ?_
  clear hK K
  repeat (refine GM.wpGrow_pure rfl (fun K hK => ?_); go_simp; refine hK.out _ ?_; clear hK K)
  refine GM.wpGrow_eff _ rfl (fun wx he hcl => ?_) (fun _ K hK => ?_) rfl
  · have hx : ConstRow g g76 #[.int .u8 99] 5 wx := hcl.out 14 rfl
    clear hcl
    have hcon := jof_any wx (some ⟨g76, 0, none⟩) 1 1 [99] wx.heap.size (Nat.le_refl _) (hx.rd rfl rfl) (Nat.le_refl _) (by unfold maxLen; omega) (by omega)
    rw [je10] at hcon
    have hz := Nat.le_trans HBW.out he.below.size
    go_simp
    exact hcon.mono fun e w2 ⟨h1, h2⟩ => ⟨h1, Mk.ext h2 hz⟩
  go_simp
  refine hK.out _ ?_
  clear hK K
  repeat (refine GM.wpGrow_pure rfl (fun K hK => ?_); go_simp; refine hK.out _ ?_; clear hK K)
  refine GM.wpGrow_eff _ rfl (fun wx he hcl => ?_) (fun _ K hK => ?_) rfl
  · clear hcl
    have hrd := (Rd.of_own HO7.out).mk he (Nat.le_refl _)
    have hst := run_string_of (P := Try.prog) (w := wx) (d := 9) Try.underlying22 Try.underlying5 Try.underlying9 hrd c7
    go_simp
    exact Mk.refl _ _
  go_simp
  refine hK.out _ ?_
  clear hK K
  repeat (refine GM.wpGrow_pure rfl (fun K hK => ?_); go_simp; refine hK.out _ ?_; clear hK K)
  refine GM.wpGrow_nil fun wx he hfin => ?_
  clear hfin

  have hb13 := hb.trans he.below
  clear he
  go_wp2_with fail
  go_ret
  exact ⟨rfl, by rw [HG.out]; exact hb13⟩

end Go.Proofs.Ytnncohajlmbedaa
