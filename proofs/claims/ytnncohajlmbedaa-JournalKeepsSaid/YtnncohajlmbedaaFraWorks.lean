/-
  Frames: the chapter's examples.
-/
import Derived.Test.YtnncohajlmbedaaFraSame
import Derived.Lib.SlBytesConst
namespace Go.Proofs.Ytnncohajlmbedaa
open Go.RowKit
attribute [local go_sem] match_undef
def W8 : List UInt8 := [7, 2, 97, 98, 228, 255, 203, 13]
theorem fe1 : Fra.putB 7 [97, 98] = W8 := by decide +kernel
theorem fe2 : Fra.putE [97, 98] = 0 := by decide +kernel
theorem fe3 : (Fra.bytes 7 [97, 98]).length = 8 := by decide +kernel
theorem fe4 : Fra.take W8 0 = (7, [97, 98], 8, 0) := by decide +kernel
theorem fe5 : Fra.take (W8.take 7) 0 = (0, [], 0, 10) := by decide +kernel
theorem fe6 : Fra.take (W8.set 0 6) 0 = (0, [], 0, 30) := by decide +kernel
theorem fe7 : Fra.all (W8 ++ W8 ++ [7]) = ([(7, [97, 98]), (7, [97, 98])], 16) := by decide +kernel

set_option maxRecDepth 100000 in
set_option maxHeartbeats 8000000 in
theorem fworks_any (w : World) : Calls Try.prog 15 #[] w fun en w' => en = .returned (.bool true) ∧ Below w.heap.size w w' := by
  have kc := fun (w : World) (C : Array Value) (n c : Nat) => Lib.run_convert_bytes_const (P := Try.prog) w 22 5 C n c Try.underlying22 Try.underlying5
  go_enter Try.func15, Try.ntmps15
  go_wp2_with fail
  have hs0 : (w.alloc (.cells #[.int .u8 97, .int .u8 98] 5 (2, 3))).heap.size = w.heap.size + 1 := by simp
  have hr1 : Rd ((w.alloc (.cells #[.int .u8 97, .int .u8 98] 5 (2, 3))).alloc (.cells #[.int .u8 7, .slice (some ⟨w.heap.size, 0, none⟩) 2 2] 26)) (w.heap.size + 1) 1 (some ⟨w.heap.size, 0, none⟩) 2 (byts [97, 98]) := Rd.alloc (Rd.of_heap (heap_alloc_new w (.cells #[.int .u8 97, .int .u8 98] 5 (2, 3))) (Nat.lt_succ_self _) (n := 2) (by decide)) (by rw [hs0]; exact Nat.le_refl _) _
  have kx : Whole ((w.alloc (.cells #[.int .u8 97, .int .u8 98] 5 (2, 3))).alloc (.cells #[.int .u8 7, .slice (some ⟨w.heap.size, 0, none⟩) 2 2] 26)) (w.alloc (.cells #[.int .u8 97, .int .u8 98] 5 (2, 3))).heap.size 26 #[.int .u8 7, .slice (some ⟨w.heap.size, 0, none⟩) 2 2] := Whole.new _ _ _
  rw [hs0] at kx
  have hb := (below1 w (.cells #[.int .u8 97, .int .u8 98] 5 (2, 3))).trans ((below1 (w.alloc (.cells #[.int .u8 97, .int .u8 98] 5 (2, 3))) (.cells #[.int .u8 7, .slice (some ⟨w.heap.size, 0, none⟩) 2 2] 26)).mono (below1 w (.cells #[.int .u8 97, .int .u8 98] 5 (2, 3))).size)
  have hgz : w.heap.size + 1 ≤ ((w.alloc (.cells #[.int .u8 97, .int .u8 98] 5 (2, 3))).alloc (.cells #[.int .u8 7, .slice (some ⟨w.heap.size, 0, none⟩) 2 2] 26)).heap.size := by rw [← hs0]; exact (below1 (w.alloc (.cells #[.int .u8 97, .int .u8 98] 5 (2, 3))) (.cells #[.int .u8 7, .slice (some ⟨w.heap.size, 0, none⟩) 2 2] 26)).size
  generalize World.alloc (World.alloc w (.cells #[.int .u8 97, .int .u8 98] 5 (2, 3))) (.cells #[.int .u8 7, .slice (some ⟨w.heap.size, 0, none⟩) 2 2] 26) = w1 at hr1 kx hb hgz ⊢
  have HR1 := Lib.hid hr1
  have KX := Lib.hid kx
  have HGZ := Lib.hid hgz
  clear hs0 hr1 kx hgz
  have hput := fput_any w1 7 (some ⟨w.heap.size, 0, none⟩) 2 2 [97, 98] (w.heap.size + 1) HGZ.out HR1.out (by omega)
  rw [fe1, fe2, show W8.length = 8 from rfl] at hput
  refine hput.mono ?_
  clear hput
  rintro en w2 ⟨D1, c1, rfl, ho1, hbn⟩
  have hc1 := own_cap ho1
  have HC1 := Lib.hid hc1
  have HO1 := Lib.hid ho1
  replace HR1 := Lib.hid (HR1.out.below (hbn.mono HGZ.out))
  replace KX := Lib.hid (KX.out.below hbn KX.out.lt)
  replace HGZ := Lib.hid (Nat.le_trans HGZ.out hbn.size)
  replace hb := hb.trans (hbn.mono hb.size)
  clear ho1 hbn hc1
  have x0 := KX.out.cell 0
  have x1 := KX.out.cell 1
  simp at x0 x1
  go_wp2_with fail
  have hsz := fsize_any w2 7 (some ⟨w.heap.size, 0, none⟩) 2 2 [97, 98] (w.heap.size + 1) HGZ.out HR1.out (by omega)
  rw [fe3] at hsz
  refine hsz.mono ?_
  clear hsz
  rintro en w3 ⟨rfl, hbn⟩
  replace HO1 := Lib.hid (own_ext HO1.out hbn)
  replace hb := hb.trans (hbn.mono hb.size)
  clear hbn x0 x1 KX HGZ HR1
  go_wp2_with fail
  have htk := ftake_any w3 D1 8 c1 W8 w3.heap.size (Nat.le_refl _) (Rd.of_own HO1.out) HC1.out.1 HC1.out.2 (by omega) 0 (by omega) (by omega)
  rw [fe4] at htk
  refine htk.mono ?_
  clear htk
  rintro en w4 ⟨D2, c2, rfl, ho2, hbn⟩
  replace ho2 : w4.ownsRow w3.heap.size 5 1 (.slice D2 2 c2) 2 (byts [97, 98]) := ho2
  replace HO1 := Lib.hid (own_ext HO1.out hbn)
  have HO2 := Lib.hid ho2
  replace hb := hb.trans (hbn.mono hb.size)
  clear hbn ho2
  have s7 : (7 : Int) ≤ (c1 : Int) := by have := HC1.out.1; omega
  go_wp2_with fail
  have kf := Whole.new w4 26 #[.int .u8 7, .slice D2 2 c2]
  have ho1 := HO1.out.alloc (.cells #[.int .u8 7, .slice D2 2 c2] 26)
  have ho2 := HO2.out.alloc (.cells #[.int .u8 7, .slice D2 2 c2] 26)
  have hb5 := hb.alloc hb.size (.cells #[.int .u8 7, .slice D2 2 c2] 26)
  obtain ⟨gf, hgf⟩ : ∃ g, w4.heap.size = g := ⟨_, rfl⟩
  rw [hgf] at kf ⊢
  generalize World.alloc w4 (.cells #[.int .u8 7, .slice D2 2 c2] 26) = w5 at kf ho1 ho2 hb5 ⊢
  clear HO1 HO2 hb hgf
  have HO1 := Lib.hid ho1
  have HO2 := Lib.hid ho2
  have KF := Lib.hid kf
  have HB5 := Lib.hid hb5
  clear ho1 ho2 kf hb5
  have hC : Below w5.heap.size w5 w5 := Below.refl _ _
  have htk := ftake_any w5 D1 7 c1 (W8.take 7) w5.heap.size (Nat.le_refl _) ((Rd.of_own HO1.out).front (j := 7) (by omega)) (by have := HC1.out.1; omega) HC1.out.2 (by omega) 0 (by omega) (by omega)
  rw [fe5] at htk
  refine htk.mono ?_
  clear htk
  rintro en w6 ⟨D9, c9, rfl, ho9, hbn⟩
  replace hC := hC.trans hbn
  clear hbn ho9
  go_wp2_with fail
  replace hC := hC.alloc hC.size (.cells #[.int .u8 0, .slice D9 0 c9] 26)
  generalize World.alloc w6 (.cells #[.int .u8 0, .slice D9 0 c9] 26) = w7 at hC ⊢
  have hown := own_any w7 D1 8 c1 W8 w5.heap.size ((Rd.of_own HO1.out).below hC) (by omega)
  rw [show W8.length = 8 from rfl] at hown
  refine hown.mono ?_
  clear hown
  rintro en w8 ⟨D3, c3, rfl, ho3, hbn⟩
  have hz57 := hC.size
  replace hC := hC.trans (hbn.mono hC.size)
  have hsz8 := hbn.size
  have hsz7 := hC.size
  clear hbn
  have hc3 := own_cap ho3
  have HC3 := Lib.hid hc3
  obtain ⟨g3, cur, rfl, hg3, hw3, ht3⟩ := own_whole ho3 (by omega)
  have hx3 := hw3.byte ht3 (k := 0) (by omega) (by decide)
  have hf3 := hw3.frozen 0
  have HW3 := Lib.hid hw3
  have HT3 := Lib.hid ht3
  have HG3 := Lib.hid (show w5.heap.size ≤ g3 from by omega)
  clear hw3 ht3 hg3 ho3 hc3 hsz7 hsz8 hz57
  go_wp2_with fail
  obtain ⟨cur2, kw, ht4, hb9⟩ := put_byte (B := w5.heap.size) (j := 0) 6 HW3.out HT3.out HG3.out
  replace hC := hC.trans hb9
  have kw2 : Whole (w8.setCell ⟨g3, 0, none⟩ (.int .u8 6)) g3 5 cur2 := kw
  have hC2 : Below w5.heap.size w5 (w8.setCell ⟨g3, 0, none⟩ (.int .u8 6)) := hC
  have hsz2 : 8 ≤ cur2.size := by
    have h1 := congrArg List.length ht4
    rw [byts_length, List.length_set, List.length_take] at h1
    have h2 : W8.length = 8 := rfl
    simp at h1
    omega
  clear kw hb9 hC hx3 hf3
  generalize World.setCell w8 ⟨g3, 0, none⟩ (.int .u8 6) = w9 at kw2 hC2 ⊢
  have hC := hC2
  have hrd := Rd.of_heap kw2 kw2.lt (n := 8) hsz2
  rw [Nat.mul_one] at ht4
  rw [ht4] at hrd
  clear hC2
  have htk := ftake_any w9 (some ⟨g3, 0, none⟩) 8 c3 (W8.set 0 6) w9.heap.size (Nat.le_refl _) hrd HC3.out.1 HC3.out.2 (by omega) 0 (by omega) (by omega)
  rw [fe6] at htk
  clear hrd kw2 ht4 hsz2 HW3 HT3
  refine htk.mono ?_
  clear htk
  rintro en w10 ⟨D9, c9, rfl, ho9, hbn⟩
  replace hC := hC.trans (hbn.mono hC.size)
  clear hbn ho9
  go_wp2_with fail
  replace hC := hC.alloc hC.size (.cells #[.int .u8 0, .slice D9 0 c9] 26)
  generalize World.alloc w10 (.cells #[.int .u8 0, .slice D9 0 c9] 26) = w11 at hC ⊢
  have hown := own_any w11 D1 8 c1 W8 w5.heap.size ((Rd.of_own HO1.out).below hC) (by omega)
  rw [show W8.length = 8 from rfl] at hown
  refine hown.mono ?_
  clear hown
  rintro en w12 ⟨D4, c4, rfl, ho4, hbn⟩
  have hz11 := hC.size
  replace hC := hC.trans (hbn.mono hC.size)
  have HO4 := Lib.hid (own_base ho4 hz11)
  have HRB := Lib.hid ((Rd.of_own HO1.out).below hC)
  clear ho4 hbn hz11
  go_wp2_with (at_builtin; first
    | (refine wpList_append_rd _ rfl (.tmp 62) (.tmp 63) _ rfl bytesV w5.heap.size _ 8 _ rfl HO4.out w5.heap.size D1 8 c1 _ rfl HRB.out (byts_one _) (by unfold maxLen; omega) (by omega) hC.size ?_
       intro D5 c5 w13 ho5 hbn _ _
       rw [← byts_append] at ho5
       have HO5 := Lib.hid ho5
       replace hC := hC.trans hbn
       have hs13 := Nat.le_trans hC.size (below1 w13 (.cells #[.int .u8 7] 5)).size
       clear ho5 hbn)
    | (refine wpList_append_rd _ rfl (.tmp 65) (.tmp 66) _ rfl bytesV w5.heap.size _ 16 _ rfl (HO5.out.alloc _) (w13.heap.size + 1) (some ⟨w13.heap.size, 0, none⟩) 1 1 _ rfl (Rd.new1 w13 5 (.int .u8 7)) (by intro u hu; simp at hu; subst hu; rfl) (by unfold maxLen; omega) (by omega) hs13 ?_
       intro D6 c6 w14 ho6 hbn _ _
       replace ho6 : w14.ownsRow w5.heap.size 5 1 (.slice D6 17 c6) 17 (byts (W8 ++ W8 ++ [7])) := ho6
       have HO6 := Lib.hid ho6
       replace hC := (hC.alloc hC.size (.cells #[.int .u8 7] 5)).trans hbn
       clear ho6 hbn))
  have hall := fall_any w14 D6 17 c6 (W8 ++ W8 ++ [7]) w14.heap.size (Nat.le_refl _) (Rd.of_own HO6.out) (own_cap HO6.out).1 (own_cap HO6.out).2 (by omega)
  rw [fe7] at hall
  refine hall.mono ?_
  clear hall
  rintro en w15 ⟨D7, c7, vs, rfl, _, _, hbn⟩
  replace hC := hC.trans (hbn.mono hC.size)
  have kf := KF.out.below hC KF.out.lt
  have x0 := kf.cell 0
  have x1 := kf.cell 1
  have hgl := kf.lt
  simp at x0 x1
  clear hbn
  go_wp2_with fail
  have hs15 : (w15.alloc (.cells #[.int .u8 97, .int .u8 98] 5 (2, 3))).heap.size = w15.heap.size + 1 := by simp
  have hr2 : Rd (w15.alloc (.cells #[.int .u8 97, .int .u8 98] 5 (2, 3))) (w15.heap.size + 1) 1 (some ⟨w15.heap.size, 0, none⟩) 2 (byts [97, 98]) := Rd.of_heap (heap_alloc_new w15 (.cells #[.int .u8 97, .int .u8 98] 5 (2, 3))) (Nat.lt_succ_self _) (n := 2) (by decide)
  have hC3 := hC.alloc hC.size (.cells #[.int .u8 97, .int .u8 98] 5 (2, 3))
  refine (lsame_any (w15.alloc (.cells #[.int .u8 97, .int .u8 98] 5 (2, 3))) 7 D2 2 c2 [97, 98] 7 (some ⟨w15.heap.size, 0, none⟩) 2 2 [97, 98] w5.heap.size (w15.heap.size + 1) hC3.size (by rw [hs15]; exact Nat.le_refl _) ((Rd.of_own HO2.out).below hC3) hr2 (by omega) (by omega) true (by decide)).mono ?_
  rintro en w16 ⟨rfl, hbn⟩
  have hb := HB5.out.trans ((hC3.trans (hbn.mono hC3.size)).mono HB5.out.size)
  go_wp2_with fail
  go_ret
  exact ⟨rfl, hb⟩

end Go.Proofs.Ytnncohajlmbedaa
