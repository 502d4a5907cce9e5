/-
  Records: Right, Law, RefRight, Puts, RefPut, Works in one text.
-/
import Derived.Test.YtmobgamlednlhaaRecVis
import Derived.BigRegion
import Derived.Test.YtmobgamlednlhaaRecBase
namespace Go.Proofs.Ytmobgamlednlhaa
open Go.RowKit
attribute [local go_sem] Instr.makeFunc Oper.growAt Oper.growUpon GSpec.fix GSpec.row GSpec.wh GSpec.own GSpec.box GSpec.kmap GSpec.lk match_undef
attribute [local irreducible] wpList
theorem rec_built (k : Nat) : (#[.int .u8 (k : Nat), .int .u64 0, .int .u64 0, .int .u64 0, .int .u64 0, .int .u64 0, .int .u64 0, .int .u64 0, .int .u64 0, .int .u64 0, .string ⟨#[]⟩, .string ⟨#[]⟩] : Array Value) = (Rc.zero k).cells := rfl
theorem Whole.new1 (w : World) (o : Obj) (t : TypeId) (cs : Array Value) : Whole ((w.alloc o).alloc (.cells cs t)) (w.heap.size + 1) t cs := by
  have h := Whole.new (w.alloc o) t cs
  rwa [show (w.alloc o).heap.size = w.heap.size + 1 by simp] at h
theorem parts_rd {w : World} {b B : Nat} {ps : List Nat} (h : Whole w b 94 (smalls ps).toArray) (hB : b < B) : Rd w B 1 (some ⟨b, 0, none⟩) ps.length (smalls ps) := by
  have hl : (smalls ps).length = ps.length := List.length_map _
  have h1 := Rd.of_heap (n := ps.length) h hB (by rw [List.size_toArray, hl]; exact Nat.le_refl _)
  rw [List.take_of_length_le (by simp [hl])] at h1
  exact h1
set_option maxRecDepth 100000 in
set_option maxHeartbeats 16000000 in
theorem right_any (w : World) (r : Rc) (hok : r.ok) : Calls Try.prog 14 #[r.val] w fun en w' => en = .returned (.bool r.right) ∧ Below w.heap.size w w' := by
  unfold Rc.val
  have W1 := Lib.hid (Whole.new w 24 r.cells)
  have B1 := Lib.hid (belowK w (.cells r.cells 24))
  have HSZ := Lib.hid (show w.heap.size ≤ (w.alloc (.cells r.cells 24)).heap.size by simp)
  have GL := Lib.hid W1.out.lt
  have Q0 := Lib.hid (show (w.alloc (.cells r.cells 24)).cell? ⟨w.heap.size, 0, none⟩ = some (.int .u8 (r.k : Nat)) from W1.out.cell 0)
  have HOK := Lib.hid hok
  clear hok
  by_cases hk : 1 ≤ r.k ∧ r.k ≤ 11
  · have HK := Lib.hid hk
    clear hk
    go_enter Try.func14, Try.ntmps14
    go_wp2_with fail
    refine wp_region_grow (fun k' => List.lookup k' [(0, (.kmap w.heap.size)), (2, (.fix (.int .u8 (r.k : Nat)))), (3, (.lk w.heap.size (Rc.pl r.k)))]) (by as_aux_lemma => kernel_rfl) (by as_aux_lemma => kernel_rfl) ?_
    repeat (refine wpGrow_pure rfl (fun K hK => ?_); go_simp; refine hK.out _ ?_; clear hK K)
    refine wpGrow_eff _ rfl (fun wx he hcl => ?_) (fun gm K hK => ?_) rfl
    · clear hcl
      have hsz := Nat.le_trans HSZ.out he.size
      have hcon := kinds_any wx
      go_simp
      exact hcon.mono fun e w2 ⟨g, he1, h1, h2⟩ => ⟨g, he1, ⟨Nat.le_trans hsz h1.1, h1.2.imp fun es h => ⟨h.1, h.2.1, fun i hi => (h.2.2 i hi).imp fun x h => ⟨h.1, h.2.1, h.2.2.imp fun b h => ⟨h.1, Nat.le_trans hsz h.2.1, h.2.2⟩⟩⟩⟩, h2⟩
    go_simp
    refine hK.out _ ?_
    clear hK K
    repeat (refine wpGrow_pure rfl (fun K hK => ?_); go_simp; refine hK.out _ ?_; clear hK K)
    refine wpGrow_eff _ rfl (fun wx he hcl => ?_) (fun _ K hK => ?_) rfl
    · clear hcl
      have hq := (he.cell (p := ⟨w.heap.size, 0, none⟩) GL.out).trans Q0.out
      go_simp
      exact Below.refl _ _
    go_simp
    refine hK.out _ ?_
    clear hK K
    repeat (refine wpGrow_pure rfl (fun K hK => ?_); go_simp; refine hK.out _ ?_; clear hK K)
    refine wpGrow_eff _ rfl (fun wx he hcl => ?_) (fun b K hK => ?_) rfl
    · have hkm : KMap wx w.heap.size gm Rec.kinds := hcl.out 0 (by kernel_rfl)
      obtain ⟨b, h1, h2, h3, _⟩ := kmap_found hkm HK.out.1 HK.out.2
      exact growAt_lookup rfl rfl rfl h3 ⟨b, rfl, h1, h2⟩
    go_simp
    refine hK.out _ ?_
    clear hK K
    repeat (refine wpGrow_pure rfl (fun K hK => ?_); go_simp; refine hK.out _ ?_; clear hK K)
    refine wpGrow_nil fun wx he hfin => ?_
    have hpr : w.heap.size ≤ b ∧ Whole wx b 94 (smalls (Rc.pl r.k)).toArray := hfin.out 3
    clear hfin
    have PR := Lib.hid hpr
    have HE := Lib.hid he
    have W2 := Lib.hid (W1.out.below he W1.out.lt)
    have q8 : wx.cell? ⟨w.heap.size, 8, none⟩ = some (.int .u64 (r.size : Nat)) := W2.out.cell 8
    have q9 : wx.cell? ⟨w.heap.size, 9, none⟩ = some (.int .u64 (r.crc : Nat)) := W2.out.cell 9
    clear hpr he
    by_cases h8 : 65535 < r.size
    · have hd : decide ((65535 : Int) < (r.size : Int)) = true := by simp; omega
      have HF := Lib.hid (show r.right = false by
        unfold Rc.right
        simp only [show ¬ r.size ≤ 65535 by omega, decide_false, Bool.and_false, Bool.false_and])
      go_wp2_with fail
      go_ret
      rw [HF.out]
      exact ⟨rfl, B1.out.trans (HE.out.mono B1.out.size)⟩
    · have hd : decide ((65535 : Int) < (r.size : Int)) = false := by simp; omega
      by_cases h9 : 4294967295 < r.crc
      · have hd9 : decide ((4294967295 : Int) < (r.crc : Int)) = true := by simp; omega
        have HF := Lib.hid (show r.right = false by
          unfold Rc.right
          simp only [show ¬ r.crc ≤ 4294967295 by omega, decide_false, Bool.and_false, Bool.false_and])
        go_wp2_with fail
        go_ret
        rw [HF.out]
        exact ⟨rfl, B1.out.trans (HE.out.mono B1.out.size)⟩
      · have hd9 : decide ((4294967295 : Int) < (r.crc : Int)) = false := by simp; omega
        have hr0 : r.right = (!(r.takeAll (Rc.places r.k)).2 && (r.takeAll (Rc.places r.k)).1.eqB (Rc.zero r.k)) := by
          unfold Rc.right
          rw [decide_eq_true HK.out, decide_eq_true (show r.size ≤ 65535 by omega), decide_eq_true (show r.crc ≤ 4294967295 by omega)]
          simp
        have HR := Lib.hid hr0
        clear hr0 h8 h9
        go_wp2_with (first
          | (refine wpList_load_row rfl 24 (.tmp 1) rfl w.heap.size rfl 24 r.cells (0, 0) _ ?_ Try.underlying24 rfl (rec_size r) ?_; · exact (W2.out.alloc _))
          | (refine wpList_store_row rfl 24 (.tmp 6) (.tmp 28) rfl (wx.heap.size + 1) r.cells rfl rfl 24 _ (Whole.new1 _ _ _ _) (rec_size r) rfl (rec_cells r) ?_))
        have g1 := ((W2.out.alloc (.cells #[.bool false] 68)).alloc (.cells #[.int .u8 0, .int .u64 0, .int .u64 0, .int .u64 0, .int .u64 0, .int .u64 0, .int .u64 0, .int .u64 0, .int .u64 0, .int .u64 0, .string ⟨#[]⟩, .string ⟨#[]⟩] 24)).row_far (k := wx.heap.size + 1) (by have := W2.out.lt; omega) r.cells
        have g2 := (Whole.new1 wx (.cells #[.bool false] 68) 24 #[.int .u8 0, .int .u64 0, .int .u64 0, .int .u64 0, .int .u64 0, .int .u64 0, .int .u64 0, .int .u64 0, .int .u64 0, .int .u64 0, .string ⟨#[]⟩, .string ⟨#[]⟩]).row r.cells
        have g3 := ((Whole.new wx 68 #[.bool false]).alloc (.cells #[.int .u8 0, .int .u64 0, .int .u64 0, .int .u64 0, .int .u64 0, .int .u64 0, .int .u64 0, .int .u64 0, .int .u64 0, .int .u64 0, .string ⟨#[]⟩, .string ⟨#[]⟩] 24)).row_far (k := wx.heap.size + 1) (by omega) r.cells
        have g4 := ((PR.out.2.alloc (.cells #[.bool false] 68)).alloc (.cells #[.int .u8 0, .int .u64 0, .int .u64 0, .int .u64 0, .int .u64 0, .int .u64 0, .int .u64 0, .int .u64 0, .int .u64 0, .int .u64 0, .string ⟨#[]⟩, .string ⟨#[]⟩] 24)).row_far (k := wx.heap.size + 1) (by have := PR.out.2.lt; omega) r.cells
        have g5 := Below.setRow (((Below.refl wx.heap.size wx).alloc (Nat.le_refl _) (.cells #[.bool false] 68)).alloc (by simp) (.cells #[.int .u8 0, .int .u64 0, .int .u64 0, .int .u64 0, .int .u64 0, .int .u64 0, .int .u64 0, .int .u64 0, .int .u64 0, .int .u64 0, .string ⟨#[]⟩, .string ⟨#[]⟩] 24)) (g := wx.heap.size + 1) (by omega) r.cells
        have BL := Lib.hid PR.out.2.lt
        have WL := Lib.hid W2.out.lt
        generalize World.setRow ((wx.alloc (.cells #[.bool false] 68)).alloc (.cells #[.int .u8 0, .int .u64 0, .int .u64 0, .int .u64 0, .int .u64 0, .int .u64 0, .int .u64 0, .int .u64 0, .int .u64 0, .int .u64 0, .string ⟨#[]⟩, .string ⟨#[]⟩] 24)) (wx.heap.size + 1) r.cells = W4 at g1 g2 g3 g4 g5 ⊢
        have HV := Lib.hid (visit_taker W4 (wx.heap.size + 1) wx.heap.size 24 68 r HOK.out g2 g3 (by omega) (some ⟨b, 0, none⟩) (Rc.pl r.k).length (Rc.pl r.k).length (Rc.pl r.k) (Rc.pl_lt _) (parts_rd g4 g4.lt) (fun _ bb o h => by
          cases h
          have := BL.out
          constructor <;> omega) (by have := Rc.pl_len r.k; omega))
        have G1 := Lib.hid g1
        have G5 := Lib.hid g5
        clear g1 g2 g3 g4 g5 q8 q9
        refine HV.out.mono ?_
        clear HV
        rintro en w2 ⟨rfl, v1, v2, v3⟩
        obtain ⟨x, hx⟩ : ∃ x, (r.takeAll (Rc.places r.k)).1 = x := ⟨_, rfl⟩
        have V1 := Lib.hid (show Whole w2 (wx.heap.size + 1) 24 x.cells by rw [← hx]; exact v1)
        have HRX := Lib.hid (show r.right = (!(r.takeAll (Rc.places r.k)).2 && x.eqB (Rc.zero r.k)) by rw [← hx]; exact HR.out)
        clear hx HR
        have z1 := Lib.hid ((v3.block w.heap.size G1.out.lt (by have := WL.out; omega) (by have := WL.out; omega)).trans G1.out)
        have BB := Lib.hid (B1.out.trans ((HE.out.mono B1.out.size).trans ((G5.out.mono (Nat.le_trans B1.out.size HE.out.size)).trans (v3.below (H := w.heap.size) (Nat.le_of_lt (show w.heap.size < W4.heap.size from G1.out.lt)) (by have := WL.out; omega) (by have := WL.out; omega)))))
        have q1 : w2.cell? ⟨wx.heap.size, 0, none⟩ = some (.bool (r.takeAll (Rc.places r.k)).2) := v2.cell 0
        have q2 : w2.cell? ⟨w.heap.size, 0, none⟩ = some (.int .u8 (r.k : Nat)) := (show Whole w2 w.heap.size 24 r.cells from z1.out).cell 0
        have hgd := rec_guard
        have heq : ∀ w : World, (binOp .eql 24 (.agg x.cells) (.agg #[.int .u8 (r.k : Nat), .int .u64 0, .int .u64 0, .int .u64 0, .int .u64 0, .int .u64 0, .int .u64 0, .int .u64 0, .int .u64 0, .int .u64 0, .string ⟨#[]⟩, .string ⟨#[]⟩])).run Try.prog w = .ok (.bool (x.eqB (Rc.zero r.k))) w := fun w => rec_eq w _ (Rc.zero r.k)
        clear v1 v2 v3
        cases hb : (r.takeAll (Rc.places r.k)).2 with
        | true =>
          rw [hb] at q1
          have HF := Lib.hid (show r.right = false by rw [HRX.out, hb]; rfl)
          clear hb heq
          go_wp2_with fail
          go_ret
          rw [HF.out]
          exact ⟨rfl, BB.out⟩
        | false =>
          rw [hb] at q1
          have HF := Lib.hid (show r.right = x.eqB (Rc.zero r.k) by rw [HRX.out, hb]; simp)
          clear hb
          go_wp2_with (refine wpList_load_rowg rfl 24 (.tmp 6) rfl (wx.heap.size + 1) rfl 24 _ _ V1.out Try.underlying24 rfl (rec_size _) ?_)
          go_ret
          rw [HF.out]
          exact ⟨rfl, BB.out⟩
  · have HK := Lib.hid hk
    clear hk
    go_enter Try.func14, Try.ntmps14
    go_wp2_with fail
    refine wp_region_grow (fun k' => List.lookup k' [(0, (.kmap w.heap.size)), (2, (.fix (.int .u8 (r.k : Nat)))), (3, (.fix (.tuple #[.slice none 0 0, .bool false])))]) (by as_aux_lemma => kernel_rfl) (by as_aux_lemma => kernel_rfl) ?_
    repeat (refine wpGrow_pure rfl (fun K hK => ?_); go_simp; refine hK.out _ ?_; clear hK K)
    refine wpGrow_eff _ rfl (fun wx he hcl => ?_) (fun gm K hK => ?_) rfl
    · clear hcl
      have hsz := Nat.le_trans HSZ.out he.size
      have hcon := kinds_any wx
      go_simp
      exact hcon.mono fun e w2 ⟨g, he1, h1, h2⟩ => ⟨g, he1, ⟨Nat.le_trans hsz h1.1, h1.2.imp fun es h => ⟨h.1, h.2.1, fun i hi => (h.2.2 i hi).imp fun x h => ⟨h.1, h.2.1, h.2.2.imp fun b h => ⟨h.1, Nat.le_trans hsz h.2.1, h.2.2⟩⟩⟩⟩, h2⟩
    go_simp
    refine hK.out _ ?_
    clear hK K
    repeat (refine wpGrow_pure rfl (fun K hK => ?_); go_simp; refine hK.out _ ?_; clear hK K)
    refine wpGrow_eff _ rfl (fun wx he hcl => ?_) (fun _ K hK => ?_) rfl
    · clear hcl
      have hq := (he.cell (p := ⟨w.heap.size, 0, none⟩) GL.out).trans Q0.out
      go_simp
      exact Below.refl _ _
    go_simp
    refine hK.out _ ?_
    clear hK K
    repeat (refine wpGrow_pure rfl (fun K hK => ?_); go_simp; refine hK.out _ ?_; clear hK K)
    refine wpGrow_eff _ rfl (fun wx he hcl => ?_) (fun _ K hK => ?_) rfl
    · have hkm : KMap wx w.heap.size gm Rec.kinds := hcl.out 0 (by kernel_rfl)
      exact growAt_lookup rfl rfl rfl (kmap_none hkm HK.out) ⟨(), rfl, trivial⟩
    go_simp
    refine hK.out _ ?_
    clear hK K
    repeat (refine wpGrow_pure rfl (fun K hK => ?_); go_simp; refine hK.out _ ?_; clear hK K)
    refine wpGrow_nil fun wx he hfin => ?_
    clear hfin
    have HF := Lib.hid (show r.right = false by
      unfold Rc.right
      rw [decide_eq_false HK.out]
      simp only [Bool.false_and])
    go_wp2_with fail
    go_ret
    rw [HF.out]
    exact ⟨rfl, B1.out.trans (he.mono B1.out.size)⟩
end Go.Proofs.Ytmobgamlednlhaa
namespace Go.Proofs.Ytmobgamlednlhaa
open Go.RowKit
namespace Rc
/-- Whose a record is. -/
def whose (r : Rc) : Rc := ⟨r.k, r.proc, r.inc, r.seq, 0, 0, 0, 0, 0, 0, ⟨#[]⟩, ⟨#[]⟩⟩
def foldStep (r x : Rc) (c : UInt8) : Rc := x.with_ c.toNat (r.num c.toNat) (r.txt c.toNat)
/-- What its letters tell of. -/
def told (r : Rc) (l : List UInt8) : Rc := l.foldl r.foldStep r.whose
theorem told_snoc (r : Rc) (l : List UInt8) (c : UInt8) : r.told (l ++ [c]) = r.foldStep (r.told l) c := by unfold told; rw [List.foldl_append]; rfl
def badText (r : Rc) (c : UInt8) : Bool := isText c.toNat && (decide ((r.txt c.toNat).size < 1) || decide (64 < (r.txt c.toNat).size))
def rright (r : Rc) : Bool := decide (1 ≤ r.k ∧ r.k ≤ 11) && decide (r.size ≤ 65535) && decide (r.crc ≤ 4294967295) && !(letters r.k).any r.badText && (r.told (letters r.k)).eqB r
theorem letters_len (k : Nat) : (letters k).length ≤ 4 := by
  rcases Nat.lt_or_ge k 12 with h | h
  · have hc : k = 0 ∨ k = 1 ∨ k = 2 ∨ k = 3 ∨ k = 4 ∨ k = 5 ∨ k = 6 ∨ k = 7 ∨ k = 8 ∨ k = 9 ∨ k = 10 ∨ k = 11 := by omega
    rcases hc with rfl | rfl | rfl | rfl | rfl | rfl | rfl | rfl | rfl | rfl | rfl | rfl <;> decide
  · unfold letters
    rw [List.getD_eq_getElem?_getD, List.getElem?_eq_none (by simpa using h)]
    simp
theorem empty_iff (s : ByteArray) : s = ⟨#[]⟩ ↔ s.size = 0 := by
  constructor
  · rintro rfl; rfl
  · intro h
    obtain ⟨d⟩ := s
    congr 1
    exact Array.eq_empty_of_size_eq_zero h
theorem right1 (n0 n1 n2 n3 n4 n5 n6 n7 n8 : Nat) (s0 s1 : ByteArray) : (⟨1, n0, n1, n2, n3, n4, n5, n6, n7, n8, s0, s1⟩ : Rc).right = true ↔ n7 ≤ 65535 ∧ n8 ≤ 4294967295 ∧ n5 = 0 ∧ n6 = 0 ∧ n7 = 0 ∧ n8 = 0 ∧ s0.size = 0 ∧ s1.size = 0 := by
  have ht : (⟨1, n0, n1, n2, n3, n4, n5, n6, n7, n8, s0, s1⟩ : Rc).takeAll (places 1) = ((⟨1, 0, 0, 0, 0, 0, n5, n6, n7, n8, s0, s1⟩ : Rc), false) := rfl
  unfold right
  simp only [ht, Bool.and_eq_true, decide_eq_true_eq, Bool.not_eq_true', eqB_iff, zero, Rc.mk.injEq, empty_iff]
  constructor
  · intro h; omega
  · intro h; and_intros <;> first | exact True.intro | rfl | omega
theorem rright1 (n0 n1 n2 n3 n4 n5 n6 n7 n8 : Nat) (s0 s1 : ByteArray) : (⟨1, n0, n1, n2, n3, n4, n5, n6, n7, n8, s0, s1⟩ : Rc).rright = true ↔ n7 ≤ 65535 ∧ n8 ≤ 4294967295 ∧ n5 = 0 ∧ n6 = 0 ∧ n7 = 0 ∧ n8 = 0 ∧ s0.size = 0 ∧ s1.size = 0 := by
  have ht : (⟨1, n0, n1, n2, n3, n4, n5, n6, n7, n8, s0, s1⟩ : Rc).told (letters 1) = (⟨1, n0, n1, n2, n3, n4, 0, 0, 0, 0, ⟨#[]⟩, ⟨#[]⟩⟩ : Rc) := rfl
  have hb : (letters 1).any (⟨1, n0, n1, n2, n3, n4, n5, n6, n7, n8, s0, s1⟩ : Rc).badText = false := rfl
  unfold rright
  simp only [ht, hb, Bool.and_eq_true, decide_eq_true_eq, Bool.not_eq_true', eqB_iff, Rc.mk.injEq, eq_comm (a := (⟨#[]⟩ : ByteArray)), empty_iff]
  constructor
  · intro h; omega
  · intro h; and_intros <;> first | exact True.intro | rfl | omega
theorem right2 (n0 n1 n2 n3 n4 n5 n6 n7 n8 : Nat) (s0 s1 : ByteArray) : (⟨2, n0, n1, n2, n3, n4, n5, n6, n7, n8, s0, s1⟩ : Rc).right = true ↔ n7 ≤ 65535 ∧ n8 ≤ 4294967295 ∧ n5 = 0 ∧ n6 = 0 ∧ n7 = 0 ∧ n8 = 0 ∧ s0.size = 0 ∧ s1.size = 0 := by
  have ht : (⟨2, n0, n1, n2, n3, n4, n5, n6, n7, n8, s0, s1⟩ : Rc).takeAll (places 2) = ((⟨2, 0, 0, 0, 0, 0, n5, n6, n7, n8, s0, s1⟩ : Rc), false) := rfl
  unfold right
  simp only [ht, Bool.and_eq_true, decide_eq_true_eq, Bool.not_eq_true', eqB_iff, zero, Rc.mk.injEq, empty_iff]
  constructor
  · intro h; omega
  · intro h; and_intros <;> first | exact True.intro | rfl | omega
theorem rright2 (n0 n1 n2 n3 n4 n5 n6 n7 n8 : Nat) (s0 s1 : ByteArray) : (⟨2, n0, n1, n2, n3, n4, n5, n6, n7, n8, s0, s1⟩ : Rc).rright = true ↔ n7 ≤ 65535 ∧ n8 ≤ 4294967295 ∧ n5 = 0 ∧ n6 = 0 ∧ n7 = 0 ∧ n8 = 0 ∧ s0.size = 0 ∧ s1.size = 0 := by
  have ht : (⟨2, n0, n1, n2, n3, n4, n5, n6, n7, n8, s0, s1⟩ : Rc).told (letters 2) = (⟨2, n0, n1, n2, n3, n4, 0, 0, 0, 0, ⟨#[]⟩, ⟨#[]⟩⟩ : Rc) := rfl
  have hb : (letters 2).any (⟨2, n0, n1, n2, n3, n4, n5, n6, n7, n8, s0, s1⟩ : Rc).badText = false := rfl
  unfold rright
  simp only [ht, hb, Bool.and_eq_true, decide_eq_true_eq, Bool.not_eq_true', eqB_iff, Rc.mk.injEq, eq_comm (a := (⟨#[]⟩ : ByteArray)), empty_iff]
  constructor
  · intro h; omega
  · intro h; and_intros <;> first | exact True.intro | rfl | omega
theorem right3 (n0 n1 n2 n3 n4 n5 n6 n7 n8 : Nat) (s0 s1 : ByteArray) : (⟨3, n0, n1, n2, n3, n4, n5, n6, n7, n8, s0, s1⟩ : Rc).right = true ↔ n7 ≤ 65535 ∧ n8 ≤ 4294967295 ∧ n4 = 0 ∧ n5 = 0 ∧ n6 = 0 ∧ n7 = 0 ∧ n8 = 0 ∧ s0.size = 0 ∧ s1.size = 0 := by
  have ht : (⟨3, n0, n1, n2, n3, n4, n5, n6, n7, n8, s0, s1⟩ : Rc).takeAll (places 3) = ((⟨3, 0, 0, 0, 0, n4, n5, n6, n7, n8, s0, s1⟩ : Rc), false) := rfl
  unfold right
  simp only [ht, Bool.and_eq_true, decide_eq_true_eq, Bool.not_eq_true', eqB_iff, zero, Rc.mk.injEq, empty_iff]
  constructor
  · intro h; omega
  · intro h; and_intros <;> first | exact True.intro | rfl | omega
theorem rright3 (n0 n1 n2 n3 n4 n5 n6 n7 n8 : Nat) (s0 s1 : ByteArray) : (⟨3, n0, n1, n2, n3, n4, n5, n6, n7, n8, s0, s1⟩ : Rc).rright = true ↔ n7 ≤ 65535 ∧ n8 ≤ 4294967295 ∧ n4 = 0 ∧ n5 = 0 ∧ n6 = 0 ∧ n7 = 0 ∧ n8 = 0 ∧ s0.size = 0 ∧ s1.size = 0 := by
  have ht : (⟨3, n0, n1, n2, n3, n4, n5, n6, n7, n8, s0, s1⟩ : Rc).told (letters 3) = (⟨3, n0, n1, n2, n3, 0, 0, 0, 0, 0, ⟨#[]⟩, ⟨#[]⟩⟩ : Rc) := rfl
  have hb : (letters 3).any (⟨3, n0, n1, n2, n3, n4, n5, n6, n7, n8, s0, s1⟩ : Rc).badText = false := rfl
  unfold rright
  simp only [ht, hb, Bool.and_eq_true, decide_eq_true_eq, Bool.not_eq_true', eqB_iff, Rc.mk.injEq, eq_comm (a := (⟨#[]⟩ : ByteArray)), empty_iff]
  constructor
  · intro h; omega
  · intro h; and_intros <;> first | exact True.intro | rfl | omega
theorem right4 (n0 n1 n2 n3 n4 n5 n6 n7 n8 : Nat) (s0 s1 : ByteArray) : (⟨4, n0, n1, n2, n3, n4, n5, n6, n7, n8, s0, s1⟩ : Rc).right = true ↔ n7 ≤ 65535 ∧ n8 ≤ 4294967295 ∧ n4 = 0 ∧ n6 = 0 ∧ s0.size = 0 ∧ s1.size = 0 := by
  have ht : (⟨4, n0, n1, n2, n3, n4, n5, n6, n7, n8, s0, s1⟩ : Rc).takeAll (places 4) = ((⟨4, 0, 0, 0, 0, n4, 0, n6, 0, 0, s0, s1⟩ : Rc), false) := rfl
  unfold right
  simp only [ht, Bool.and_eq_true, decide_eq_true_eq, Bool.not_eq_true', eqB_iff, zero, Rc.mk.injEq, empty_iff]
  constructor
  · intro h; omega
  · intro h; and_intros <;> first | exact True.intro | rfl | omega
theorem rright4 (n0 n1 n2 n3 n4 n5 n6 n7 n8 : Nat) (s0 s1 : ByteArray) : (⟨4, n0, n1, n2, n3, n4, n5, n6, n7, n8, s0, s1⟩ : Rc).rright = true ↔ n7 ≤ 65535 ∧ n8 ≤ 4294967295 ∧ n4 = 0 ∧ n6 = 0 ∧ s0.size = 0 ∧ s1.size = 0 := by
  have ht : (⟨4, n0, n1, n2, n3, n4, n5, n6, n7, n8, s0, s1⟩ : Rc).told (letters 4) = (⟨4, n0, n1, n2, n3, 0, n5, 0, n7, n8, ⟨#[]⟩, ⟨#[]⟩⟩ : Rc) := rfl
  have hb : (letters 4).any (⟨4, n0, n1, n2, n3, n4, n5, n6, n7, n8, s0, s1⟩ : Rc).badText = false := rfl
  unfold rright
  simp only [ht, hb, Bool.and_eq_true, decide_eq_true_eq, Bool.not_eq_true', eqB_iff, Rc.mk.injEq, eq_comm (a := (⟨#[]⟩ : ByteArray)), empty_iff]
  constructor
  · intro h; omega
  · intro h; and_intros <;> first | exact True.intro | rfl | omega
theorem right5 (n0 n1 n2 n3 n4 n5 n6 n7 n8 : Nat) (s0 s1 : ByteArray) : (⟨5, n0, n1, n2, n3, n4, n5, n6, n7, n8, s0, s1⟩ : Rc).right = true ↔ n7 ≤ 65535 ∧ n8 ≤ 4294967295 ∧ n3 = 0 ∧ n6 = 0 ∧ n7 = 0 ∧ n8 = 0 ∧ s0.size = 0 ∧ s1.size = 0 := by
  have ht : (⟨5, n0, n1, n2, n3, n4, n5, n6, n7, n8, s0, s1⟩ : Rc).takeAll (places 5) = ((⟨5, 0, 0, 0, n3, 0, 0, n6, n7, n8, s0, s1⟩ : Rc), false) := rfl
  unfold right
  simp only [ht, Bool.and_eq_true, decide_eq_true_eq, Bool.not_eq_true', eqB_iff, zero, Rc.mk.injEq, empty_iff]
  constructor
  · intro h; omega
  · intro h; and_intros <;> first | exact True.intro | rfl | omega
theorem rright5 (n0 n1 n2 n3 n4 n5 n6 n7 n8 : Nat) (s0 s1 : ByteArray) : (⟨5, n0, n1, n2, n3, n4, n5, n6, n7, n8, s0, s1⟩ : Rc).rright = true ↔ n7 ≤ 65535 ∧ n8 ≤ 4294967295 ∧ n3 = 0 ∧ n6 = 0 ∧ n7 = 0 ∧ n8 = 0 ∧ s0.size = 0 ∧ s1.size = 0 := by
  have ht : (⟨5, n0, n1, n2, n3, n4, n5, n6, n7, n8, s0, s1⟩ : Rc).told (letters 5) = (⟨5, n0, n1, n2, 0, n4, n5, 0, 0, 0, ⟨#[]⟩, ⟨#[]⟩⟩ : Rc) := rfl
  have hb : (letters 5).any (⟨5, n0, n1, n2, n3, n4, n5, n6, n7, n8, s0, s1⟩ : Rc).badText = false := rfl
  unfold rright
  simp only [ht, hb, Bool.and_eq_true, decide_eq_true_eq, Bool.not_eq_true', eqB_iff, Rc.mk.injEq, eq_comm (a := (⟨#[]⟩ : ByteArray)), empty_iff]
  constructor
  · intro h; omega
  · intro h; and_intros <;> first | exact True.intro | rfl | omega
theorem right6 (n0 n1 n2 n3 n4 n5 n6 n7 n8 : Nat) (s0 s1 : ByteArray) : (⟨6, n0, n1, n2, n3, n4, n5, n6, n7, n8, s0, s1⟩ : Rc).right = true ↔ n7 ≤ 65535 ∧ n8 ≤ 4294967295 ∧ n3 = 0 ∧ n4 = 0 ∧ n6 = 0 ∧ n7 = 0 ∧ n8 = 0 ∧ s0.size = 0 ∧ s1.size = 0 := by
  have ht : (⟨6, n0, n1, n2, n3, n4, n5, n6, n7, n8, s0, s1⟩ : Rc).takeAll (places 6) = ((⟨6, 0, 0, 0, n3, n4, 0, n6, n7, n8, s0, s1⟩ : Rc), false) := rfl
  unfold right
  simp only [ht, Bool.and_eq_true, decide_eq_true_eq, Bool.not_eq_true', eqB_iff, zero, Rc.mk.injEq, empty_iff]
  constructor
  · intro h; omega
  · intro h; and_intros <;> first | exact True.intro | rfl | omega
theorem rright6 (n0 n1 n2 n3 n4 n5 n6 n7 n8 : Nat) (s0 s1 : ByteArray) : (⟨6, n0, n1, n2, n3, n4, n5, n6, n7, n8, s0, s1⟩ : Rc).rright = true ↔ n7 ≤ 65535 ∧ n8 ≤ 4294967295 ∧ n3 = 0 ∧ n4 = 0 ∧ n6 = 0 ∧ n7 = 0 ∧ n8 = 0 ∧ s0.size = 0 ∧ s1.size = 0 := by
  have ht : (⟨6, n0, n1, n2, n3, n4, n5, n6, n7, n8, s0, s1⟩ : Rc).told (letters 6) = (⟨6, n0, n1, n2, 0, 0, n5, 0, 0, 0, ⟨#[]⟩, ⟨#[]⟩⟩ : Rc) := rfl
  have hb : (letters 6).any (⟨6, n0, n1, n2, n3, n4, n5, n6, n7, n8, s0, s1⟩ : Rc).badText = false := rfl
  unfold rright
  simp only [ht, hb, Bool.and_eq_true, decide_eq_true_eq, Bool.not_eq_true', eqB_iff, Rc.mk.injEq, eq_comm (a := (⟨#[]⟩ : ByteArray)), empty_iff]
  constructor
  · intro h; omega
  · intro h; and_intros <;> first | exact True.intro | rfl | omega
theorem right7 (n0 n1 n2 n3 n4 n5 n6 n7 n8 : Nat) (s0 s1 : ByteArray) : (⟨7, n0, n1, n2, n3, n4, n5, n6, n7, n8, s0, s1⟩ : Rc).right = true ↔ n7 ≤ 65535 ∧ n8 ≤ 4294967295 ∧ n3 = 0 ∧ n4 = 0 ∧ n5 = 0 ∧ n6 = 0 ∧ n7 = 0 ∧ n8 = 0 ∧ s0.size = 0 ∧ s1.size = 0 := by
  have ht : (⟨7, n0, n1, n2, n3, n4, n5, n6, n7, n8, s0, s1⟩ : Rc).takeAll (places 7) = ((⟨7, 0, 0, 0, n3, n4, n5, n6, n7, n8, s0, s1⟩ : Rc), false) := rfl
  unfold right
  simp only [ht, Bool.and_eq_true, decide_eq_true_eq, Bool.not_eq_true', eqB_iff, zero, Rc.mk.injEq, empty_iff]
  constructor
  · intro h; omega
  · intro h; and_intros <;> first | exact True.intro | rfl | omega
theorem rright7 (n0 n1 n2 n3 n4 n5 n6 n7 n8 : Nat) (s0 s1 : ByteArray) : (⟨7, n0, n1, n2, n3, n4, n5, n6, n7, n8, s0, s1⟩ : Rc).rright = true ↔ n7 ≤ 65535 ∧ n8 ≤ 4294967295 ∧ n3 = 0 ∧ n4 = 0 ∧ n5 = 0 ∧ n6 = 0 ∧ n7 = 0 ∧ n8 = 0 ∧ s0.size = 0 ∧ s1.size = 0 := by
  have ht : (⟨7, n0, n1, n2, n3, n4, n5, n6, n7, n8, s0, s1⟩ : Rc).told (letters 7) = (⟨7, n0, n1, n2, 0, 0, 0, 0, 0, 0, ⟨#[]⟩, ⟨#[]⟩⟩ : Rc) := rfl
  have hb : (letters 7).any (⟨7, n0, n1, n2, n3, n4, n5, n6, n7, n8, s0, s1⟩ : Rc).badText = false := rfl
  unfold rright
  simp only [ht, hb, Bool.and_eq_true, decide_eq_true_eq, Bool.not_eq_true', eqB_iff, Rc.mk.injEq, eq_comm (a := (⟨#[]⟩ : ByteArray)), empty_iff]
  constructor
  · intro h; omega
  · intro h; and_intros <;> first | exact True.intro | rfl | omega
theorem right8 (n0 n1 n2 n3 n4 n5 n6 n7 n8 : Nat) (s0 s1 : ByteArray) : (⟨8, n0, n1, n2, n3, n4, n5, n6, n7, n8, s0, s1⟩ : Rc).right = true ↔ n7 ≤ 65535 ∧ n8 ≤ 4294967295 ∧ n3 = 0 ∧ n4 = 0 ∧ n5 = 0 ∧ n7 = 0 ∧ n8 = 0 ∧ s0.size = 0 ∧ s1.size = 0 := by
  have ht : (⟨8, n0, n1, n2, n3, n4, n5, n6, n7, n8, s0, s1⟩ : Rc).takeAll (places 8) = ((⟨8, 0, 0, 0, n3, n4, n5, 0, n7, n8, s0, s1⟩ : Rc), false) := rfl
  unfold right
  simp only [ht, Bool.and_eq_true, decide_eq_true_eq, Bool.not_eq_true', eqB_iff, zero, Rc.mk.injEq, empty_iff]
  constructor
  · intro h; omega
  · intro h; and_intros <;> first | exact True.intro | rfl | omega
theorem rright8 (n0 n1 n2 n3 n4 n5 n6 n7 n8 : Nat) (s0 s1 : ByteArray) : (⟨8, n0, n1, n2, n3, n4, n5, n6, n7, n8, s0, s1⟩ : Rc).rright = true ↔ n7 ≤ 65535 ∧ n8 ≤ 4294967295 ∧ n3 = 0 ∧ n4 = 0 ∧ n5 = 0 ∧ n7 = 0 ∧ n8 = 0 ∧ s0.size = 0 ∧ s1.size = 0 := by
  have ht : (⟨8, n0, n1, n2, n3, n4, n5, n6, n7, n8, s0, s1⟩ : Rc).told (letters 8) = (⟨8, n0, n1, n2, 0, 0, 0, n6, 0, 0, ⟨#[]⟩, ⟨#[]⟩⟩ : Rc) := rfl
  have hb : (letters 8).any (⟨8, n0, n1, n2, n3, n4, n5, n6, n7, n8, s0, s1⟩ : Rc).badText = false := rfl
  unfold rright
  simp only [ht, hb, Bool.and_eq_true, decide_eq_true_eq, Bool.not_eq_true', eqB_iff, Rc.mk.injEq, eq_comm (a := (⟨#[]⟩ : ByteArray)), empty_iff]
  constructor
  · intro h; omega
  · intro h; and_intros <;> first | exact True.intro | rfl | omega
theorem right9 (n0 n1 n2 n3 n4 n5 n6 n7 n8 : Nat) (s0 s1 : ByteArray) : (⟨9, n0, n1, n2, n3, n4, n5, n6, n7, n8, s0, s1⟩ : Rc).right = true ↔ n7 ≤ 65535 ∧ n8 ≤ 4294967295 ∧ n3 = 0 ∧ n4 = 0 ∧ n5 = 0 ∧ n6 = 0 ∧ n7 = 0 ∧ n8 = 0 ∧ (1 ≤ s0.size ∧ s0.size ≤ 64) ∧ s1.size = 0 := by
  have ht : (⟨9, n0, n1, n2, n3, n4, n5, n6, n7, n8, s0, s1⟩ : Rc).takeAll (places 9) = ((⟨9, 0, 0, 0, n3, n4, n5, n6, n7, n8, ⟨#[]⟩, s1⟩ : Rc), (false || decide (s0.size = 0) || decide (64 < s0.size))) := rfl
  unfold right
  simp only [ht, Bool.and_eq_true, decide_eq_true_eq, Bool.not_eq_true', Bool.or_eq_false_iff, decide_eq_false_iff_not, eqB_iff, zero, Rc.mk.injEq, empty_iff]
  constructor
  · intro h; omega
  · intro h; and_intros <;> first | exact True.intro | rfl | omega
theorem rright9 (n0 n1 n2 n3 n4 n5 n6 n7 n8 : Nat) (s0 s1 : ByteArray) : (⟨9, n0, n1, n2, n3, n4, n5, n6, n7, n8, s0, s1⟩ : Rc).rright = true ↔ n7 ≤ 65535 ∧ n8 ≤ 4294967295 ∧ n3 = 0 ∧ n4 = 0 ∧ n5 = 0 ∧ n6 = 0 ∧ n7 = 0 ∧ n8 = 0 ∧ (1 ≤ s0.size ∧ s0.size ≤ 64) ∧ s1.size = 0 := by
  have ht : (⟨9, n0, n1, n2, n3, n4, n5, n6, n7, n8, s0, s1⟩ : Rc).told (letters 9) = (⟨9, n0, n1, n2, 0, 0, 0, 0, 0, 0, s0, ⟨#[]⟩⟩ : Rc) := rfl
  have hb : (letters 9).any (⟨9, n0, n1, n2, n3, n4, n5, n6, n7, n8, s0, s1⟩ : Rc).badText = ((true && (decide (s0.size < 1) || decide (64 < s0.size))) || false) := rfl
  unfold rright
  simp only [ht, hb, Bool.and_eq_true, decide_eq_true_eq, Bool.not_eq_true', Bool.or_eq_false_iff, Bool.true_and, decide_eq_false_iff_not, eqB_iff, Rc.mk.injEq, eq_comm (a := (⟨#[]⟩ : ByteArray)), empty_iff]
  constructor
  · intro h; omega
  · intro h; and_intros <;> first | exact True.intro | rfl | omega
theorem right10 (n0 n1 n2 n3 n4 n5 n6 n7 n8 : Nat) (s0 s1 : ByteArray) : (⟨10, n0, n1, n2, n3, n4, n5, n6, n7, n8, s0, s1⟩ : Rc).right = true ↔ n7 ≤ 65535 ∧ n8 ≤ 4294967295 ∧ n3 = 0 ∧ n4 = 0 ∧ n5 = 0 ∧ n6 = 0 ∧ n7 = 0 ∧ n8 = 0 ∧ (1 ≤ s0.size ∧ s0.size ≤ 64) ∧ s1.size = 0 := by
  have ht : (⟨10, n0, n1, n2, n3, n4, n5, n6, n7, n8, s0, s1⟩ : Rc).takeAll (places 10) = ((⟨10, 0, 0, 0, n3, n4, n5, n6, n7, n8, ⟨#[]⟩, s1⟩ : Rc), (false || decide (s0.size = 0) || decide (64 < s0.size))) := rfl
  unfold right
  simp only [ht, Bool.and_eq_true, decide_eq_true_eq, Bool.not_eq_true', Bool.or_eq_false_iff, decide_eq_false_iff_not, eqB_iff, zero, Rc.mk.injEq, empty_iff]
  constructor
  · intro h; omega
  · intro h; and_intros <;> first | exact True.intro | rfl | omega
theorem rright10 (n0 n1 n2 n3 n4 n5 n6 n7 n8 : Nat) (s0 s1 : ByteArray) : (⟨10, n0, n1, n2, n3, n4, n5, n6, n7, n8, s0, s1⟩ : Rc).rright = true ↔ n7 ≤ 65535 ∧ n8 ≤ 4294967295 ∧ n3 = 0 ∧ n4 = 0 ∧ n5 = 0 ∧ n6 = 0 ∧ n7 = 0 ∧ n8 = 0 ∧ (1 ≤ s0.size ∧ s0.size ≤ 64) ∧ s1.size = 0 := by
  have ht : (⟨10, n0, n1, n2, n3, n4, n5, n6, n7, n8, s0, s1⟩ : Rc).told (letters 10) = (⟨10, n0, n1, n2, 0, 0, 0, 0, 0, 0, s0, ⟨#[]⟩⟩ : Rc) := rfl
  have hb : (letters 10).any (⟨10, n0, n1, n2, n3, n4, n5, n6, n7, n8, s0, s1⟩ : Rc).badText = ((true && (decide (s0.size < 1) || decide (64 < s0.size))) || false) := rfl
  unfold rright
  simp only [ht, hb, Bool.and_eq_true, decide_eq_true_eq, Bool.not_eq_true', Bool.or_eq_false_iff, Bool.true_and, decide_eq_false_iff_not, eqB_iff, Rc.mk.injEq, eq_comm (a := (⟨#[]⟩ : ByteArray)), empty_iff]
  constructor
  · intro h; omega
  · intro h; and_intros <;> first | exact True.intro | rfl | omega
theorem right11 (n0 n1 n2 n3 n4 n5 n6 n7 n8 : Nat) (s0 s1 : ByteArray) : (⟨11, n0, n1, n2, n3, n4, n5, n6, n7, n8, s0, s1⟩ : Rc).right = true ↔ n7 ≤ 65535 ∧ n8 ≤ 4294967295 ∧ n3 = 0 ∧ n4 = 0 ∧ n5 = 0 ∧ n6 = 0 ∧ n7 = 0 ∧ n8 = 0 ∧ (1 ≤ s0.size ∧ s0.size ≤ 64) ∧ (1 ≤ s1.size ∧ s1.size ≤ 64) := by
  have ht : (⟨11, n0, n1, n2, n3, n4, n5, n6, n7, n8, s0, s1⟩ : Rc).takeAll (places 11) = ((⟨11, 0, 0, 0, n3, n4, n5, n6, n7, n8, ⟨#[]⟩, ⟨#[]⟩⟩ : Rc), ((false || decide (s0.size = 0) || decide (64 < s0.size)) || decide (s1.size = 0) || decide (64 < s1.size))) := rfl
  unfold right
  simp only [ht, Bool.and_eq_true, decide_eq_true_eq, Bool.not_eq_true', Bool.or_eq_false_iff, decide_eq_false_iff_not, eqB_iff, zero, Rc.mk.injEq]
  constructor
  · intro h; omega
  · intro h; and_intros <;> first | exact True.intro | rfl | omega
theorem rright11 (n0 n1 n2 n3 n4 n5 n6 n7 n8 : Nat) (s0 s1 : ByteArray) : (⟨11, n0, n1, n2, n3, n4, n5, n6, n7, n8, s0, s1⟩ : Rc).rright = true ↔ n7 ≤ 65535 ∧ n8 ≤ 4294967295 ∧ n3 = 0 ∧ n4 = 0 ∧ n5 = 0 ∧ n6 = 0 ∧ n7 = 0 ∧ n8 = 0 ∧ (1 ≤ s0.size ∧ s0.size ≤ 64) ∧ (1 ≤ s1.size ∧ s1.size ≤ 64) := by
  have ht : (⟨11, n0, n1, n2, n3, n4, n5, n6, n7, n8, s0, s1⟩ : Rc).told (letters 11) = (⟨11, n0, n1, n2, 0, 0, 0, 0, 0, 0, s0, s1⟩ : Rc) := rfl
  have hb : (letters 11).any (⟨11, n0, n1, n2, n3, n4, n5, n6, n7, n8, s0, s1⟩ : Rc).badText = ((true && (decide (s0.size < 1) || decide (64 < s0.size))) || ((true && (decide (s1.size < 1) || decide (64 < s1.size))) || false)) := rfl
  unfold rright
  simp only [ht, hb, Bool.and_eq_true, decide_eq_true_eq, Bool.not_eq_true', Bool.or_eq_false_iff, Bool.true_and, decide_eq_false_iff_not, eqB_iff, Rc.mk.injEq]
  constructor
  · intro h; omega
  · intro h; and_intros <;> first | exact True.intro | rfl | omega
theorem right_rright (r : Rc) : r.right = r.rright := by
  by_cases hk : 1 ≤ r.k ∧ r.k ≤ 11
  · obtain ⟨k, n0, n1, n2, n3, n4, n5, n6, n7, n8, s0, s1⟩ := r
    obtain ⟨h1, h2⟩ := hk
    rcases twelve h1 h2 with h | h | h | h | h | h | h | h | h | h | h
    all_goals (simp only at h; subst h)
    · rw [Bool.eq_iff_iff, right1, rright1]
    · rw [Bool.eq_iff_iff, right2, rright2]
    · rw [Bool.eq_iff_iff, right3, rright3]
    · rw [Bool.eq_iff_iff, right4, rright4]
    · rw [Bool.eq_iff_iff, right5, rright5]
    · rw [Bool.eq_iff_iff, right6, rright6]
    · rw [Bool.eq_iff_iff, right7, rright7]
    · rw [Bool.eq_iff_iff, right8, rright8]
    · rw [Bool.eq_iff_iff, right9, rright9]
    · rw [Bool.eq_iff_iff, right10, rright10]
    · rw [Bool.eq_iff_iff, right11, rright11]
  · unfold right rright
    rw [decide_eq_false hk]
    rfl
theorem right_small {r : Rc} (h : r.right = true) : ∀ i, (r.tat i).size ≤ 64 := by
  have hk : 1 ≤ r.k ∧ r.k ≤ 11 := by
    unfold right at h
    simp only [Bool.and_eq_true, decide_eq_true_eq] at h
    exact h.1.1.1.1
  obtain ⟨k, n0, n1, n2, n3, n4, n5, n6, n7, n8, s0, s1⟩ := r
  obtain ⟨h1, h2⟩ := hk
  have hs : s0.size ≤ 64 ∧ s1.size ≤ 64 := by
    rcases twelve h1 h2 with e | e | e | e | e | e | e | e | e | e | e
    all_goals (simp only at e; subst e)
    · have h3 := (right1 n0 n1 n2 n3 n4 n5 n6 n7 n8 s0 s1).1 h
      omega
    · have h3 := (right2 n0 n1 n2 n3 n4 n5 n6 n7 n8 s0 s1).1 h
      omega
    · have h3 := (right3 n0 n1 n2 n3 n4 n5 n6 n7 n8 s0 s1).1 h
      omega
    · have h3 := (right4 n0 n1 n2 n3 n4 n5 n6 n7 n8 s0 s1).1 h
      omega
    · have h3 := (right5 n0 n1 n2 n3 n4 n5 n6 n7 n8 s0 s1).1 h
      omega
    · have h3 := (right6 n0 n1 n2 n3 n4 n5 n6 n7 n8 s0 s1).1 h
      omega
    · have h3 := (right7 n0 n1 n2 n3 n4 n5 n6 n7 n8 s0 s1).1 h
      omega
    · have h3 := (right8 n0 n1 n2 n3 n4 n5 n6 n7 n8 s0 s1).1 h
      omega
    · have h3 := (right9 n0 n1 n2 n3 n4 n5 n6 n7 n8 s0 s1).1 h
      omega
    · have h3 := (right10 n0 n1 n2 n3 n4 n5 n6 n7 n8 s0 s1).1 h
      omega
    · have h3 := (right11 n0 n1 n2 n3 n4 n5 n6 n7 n8 s0 s1).1 h
      omega
  intro i
  unfold tat
  split
  · exact hs.1
  · exact hs.2
end Rc
end Go.Proofs.Ytmobgamlednlhaa
namespace Go.Proofs.Ytmobgamlednlhaa
open Go.RowKit
theorem run_index_str {P : Program} {w : World} {t : TypeId} (ht : P.underlying t = some .string) {s : ByteArray} {j : Nat} {c : UInt8} (h : s.data.toList[j]? = some c) (k : IntKind) : (Instr.index t (.string s) (.int k (j : Nat))).run P w = .ok (.int .u8 (c.toNat : Nat)) w := by
  have h1 : j < s.data.toList.length := (List.getElem?_eq_some_iff.1 h).1
  have h2 : s[j]? = some c := by
    have h3 : j < s.size := by rw [← size_list s]; exact h1
    rw [getElem?_pos s j h3]
    rw [List.getElem?_eq_getElem h1] at h
    injection h with h
    rw [← h]
    rfl
  simp [Instr.index, run_underlying ht, asIntOf, h2]
theorem growAt_index {P : Program} {w : World} {o : Oper} {a : Act} {t : TypeId} {x i : Operand} (ho : o.op = .index t x i) {s : ByteArray} (hx : a.eval x = .string s) {k : IntKind} {j : Nat} (hi : a.eval i = .int k (j : Nat)) (ht : P.underlying t = some .string) {c : UInt8} (h : s.data.toList[j]? = some c) :
    Oper.growAt P o a (.fix (.int .u8 (c.toNat : Nat))) w := by
  unfold Oper.growAt Oper.growUpon execOp
  simp only [ho, hx, hi, Sem.run_bind, run_index_str ht h, Result.andThen_ok, Sem.run_pure]
  exact ⟨(), rfl, trivial, Below.refl _ _⟩
attribute [local go_sem] Instr.makeFunc Oper.growAt Oper.growUpon GSpec.fix GSpec.row GSpec.wh GSpec.own GSpec.box GSpec.kmap GSpec.lk match_undef
attribute [local irreducible] wpList
theorem any_take_snoc {α : Type} (p : α → Bool) (l : List α) {j : Nat} (h : j < l.length) : (l.take (j + 1)).any p = ((l.take j).any p || p l[j]) := by
  rw [List.take_succ_eq_append_getElem h, List.any_append]
  simp
set_option maxRecDepth 100000 in
set_option maxHeartbeats 16000000 in
theorem rright_any (w : World) (r : Rc) (hok : r.ok) : Calls Try.prog 15 #[r.val] w fun en w' => en = .returned (.bool r.rright) ∧ Below w.heap.size w w' := by
  unfold Rc.val
  have W1 := Lib.hid (Whole.new w 31 r.cells)
  have B1 := Lib.hid (belowK w (.cells r.cells 31))
  have q0 : (w.alloc (.cells r.cells 31)).cell? ⟨w.heap.size, 0, none⟩ = some (.int .u8 (r.k : Nat)) := W1.out.cell 0
  have q8 : (w.alloc (.cells r.cells 31)).cell? ⟨w.heap.size, 8, none⟩ = some (.int .u64 (r.size : Nat)) := W1.out.cell 8
  have q9 : (w.alloc (.cells r.cells 31)).cell? ⟨w.heap.size, 9, none⟩ = some (.int .u64 (r.crc : Nat)) := W1.out.cell 9
  have HOK := Lib.hid hok
  clear hok
  by_cases h1 : r.k < 1
  · have hd : decide ((r.k : Int) < 1) = true := by simp; omega
    have HF := Lib.hid (show r.rright = false by
      unfold Rc.rright
      rw [decide_eq_false (show ¬ (1 ≤ r.k ∧ r.k ≤ 11) by omega)]
      simp only [Bool.false_and])
    go_enter Try.func15, Try.ntmps15
    go_wp2_with fail
    go_ret
    rw [HF.out]
    exact ⟨rfl, B1.out⟩
  · have hd : decide ((r.k : Int) < 1) = false := by simp; omega
    by_cases h2 : 11 < r.k
    · have hd2 : decide ((11 : Int) < (r.k : Int)) = true := by simp; omega
      have HF := Lib.hid (show r.rright = false by
        unfold Rc.rright
        rw [decide_eq_false (show ¬ (1 ≤ r.k ∧ r.k ≤ 11) by omega)]
        simp only [Bool.false_and])
      go_enter Try.func15, Try.ntmps15
      go_wp2_with fail
      go_ret
      rw [HF.out]
      exact ⟨rfl, B1.out⟩
    · have hd2 : decide ((11 : Int) < (r.k : Int)) = false := by simp; omega
      by_cases h3 : 65535 < r.size
      · have hd3 : decide ((65535 : Int) < (r.size : Int)) = true := by simp; omega
        have HF := Lib.hid (show r.rright = false by
          unfold Rc.rright
          simp only [show ¬ r.size ≤ 65535 by omega, decide_false, Bool.and_false, Bool.false_and])
        go_enter Try.func15, Try.ntmps15
        go_wp2_with fail
        go_ret
        rw [HF.out]
        exact ⟨rfl, B1.out⟩
      · have hd3 : decide ((65535 : Int) < (r.size : Int)) = false := by simp; omega
        by_cases h4 : 4294967295 < r.crc
        · have hd4 : decide ((4294967295 : Int) < (r.crc : Int)) = true := by simp; omega
          have HF := Lib.hid (show r.rright = false by
            unfold Rc.rright
            simp only [show ¬ r.crc ≤ 4294967295 by omega, decide_false, Bool.and_false, Bool.false_and])
          go_enter Try.func15, Try.ntmps15
          go_wp2_with fail
          go_ret
          rw [HF.out]
          exact ⟨rfl, B1.out⟩
        · have hd4 : decide ((4294967295 : Int) < (r.crc : Int)) = false := by simp; omega
          have HR := Lib.hid (show r.rright = (!(Rc.letters r.k).any r.badText && (r.told (Rc.letters r.k)).eqB r) by
            unfold Rc.rright
            rw [decide_eq_true (show 1 ≤ r.k ∧ r.k ≤ 11 by omega), decide_eq_true (show r.size ≤ 65535 by omega), decide_eq_true (show r.crc ≤ 4294967295 by omega)]
            simp)
          obtain ⟨ls, hls⟩ : ∃ l, Rc.letters r.k = l := ⟨_, rfl⟩
          have HLN := Lib.hid (show ls.length ≤ 4 by rw [← hls]; exact Rc.letters_len _)
          have HCP := Lib.hid (parts_any (w.alloc (.cells r.cells 31)) r.k HOK.out.1)
          rw [hls] at HCP HR
          have h5 : (Rc.whose r).cells = r.whose.cells := rfl
          clear h1 h2 h3 h4 hls h5
          go_enter Try.func15, Try.ntmps15
          go_wp2_with fail
          refine HCP.out.mono ?_
          clear HCP
          rintro en w2 ⟨rfl, hb2⟩
          have V1 := Lib.hid (W1.out.below hb2 W1.out.lt)
          have VB := Lib.hid (B1.out.trans (hb2.mono B1.out.size))
          have p0 : w2.cell? ⟨w.heap.size, 0, none⟩ = some (.int .u8 (r.k : Nat)) := V1.out.cell 0
          have p1 : w2.cell? ⟨w.heap.size, 1, none⟩ = some (.int .u64 (r.proc : Nat)) := V1.out.cell 1
          have p2 : w2.cell? ⟨w.heap.size, 2, none⟩ = some (.int .u64 (r.inc : Nat)) := V1.out.cell 2
          have p3 : w2.cell? ⟨w.heap.size, 3, none⟩ = some (.int .u64 (r.seq : Nat)) := V1.out.cell 3
          clear hb2 q0 q8 q9 hd hd2 hd3 hd4
          go_wp2_with (refine wpList_store_row rfl 31 (.tmp 4) (.tmp 35) rfl w2.heap.size r.whose.cells rfl rfl 31 _ (Whole.new _ _ _) (rrec_size _) rfl (rec_cells _) ?_)
          have g1 := (V1.out.alloc (.cells #[.int .u8 0, .int .u64 0, .int .u64 0, .int .u64 0, .int .u64 0, .int .u64 0, .int .u64 0, .int .u64 0, .int .u64 0, .int .u64 0, .string ⟨#[]⟩, .string ⟨#[]⟩] 31)).row_far (k := w2.heap.size) (by have := V1.out.lt; omega) r.whose.cells
          have g2 := (Whole.new w2 31 #[.int .u8 0, .int .u64 0, .int .u64 0, .int .u64 0, .int .u64 0, .int .u64 0, .int .u64 0, .int .u64 0, .int .u64 0, .int .u64 0, .string ⟨#[]⟩, .string ⟨#[]⟩]).row r.whose.cells
          have g5 := Below.setRow ((Below.refl w.heap.size w2).alloc VB.out.size (.cells #[.int .u8 0, .int .u64 0, .int .u64 0, .int .u64 0, .int .u64 0, .int .u64 0, .int .u64 0, .int .u64 0, .int .u64 0, .int .u64 0, .string ⟨#[]⟩, .string ⟨#[]⟩] 31)) (g := w2.heap.size) VB.out.size r.whose.cells
          have HGL := Lib.hid V1.out.lt
          obtain ⟨g4, hg4⟩ : ∃ g, g = w2.heap.size := ⟨_, rfl⟩
          rw [← hg4] at g1 g2 g5 ⊢
          generalize World.setRow (w2.alloc (.cells #[.int .u8 0, .int .u64 0, .int .u64 0, .int .u64 0, .int .u64 0, .int .u64 0, .int .u64 0, .int .u64 0, .int .u64 0, .int .u64 0, .string ⟨#[]⟩, .string ⟨#[]⟩] 31)) g4 r.whose.cells = W4 at g1 g2 g5 ⊢
          have HG4 := Lib.hid (show w.heap.size < g4 by rw [hg4]; exact HGL.out)
          have G1 := Lib.hid g1
          have G2 := Lib.hid g2
          have G5 := Lib.hid (VB.out.trans (g5.mono (Nat.le_refl _)))
          clear g1 g2 g5 hg4 HGL p0 p1 p2 p3 V1 VB
          go_wp2_with fail
          go_loopw [5] (fun i wr => ∃ j : Nat, j ≤ ls.length ∧ i = .int .i64 j ∧ Hid (Whole wr w.heap.size 31 r.cells) ∧ Hid (Whole wr g4 31 (r.told (ls.take j)).cells) ∧ Hid ((ls.take j).any r.badText = false) ∧ Hid (Below w.heap.size w wr)) (fun i _ => ls.length - (intOf i).toNat)
          case atStart => exact ⟨0, Nat.zero_le _, rfl, G1, G2, Lib.hid rfl, G5⟩
          case round =>
            clear G1 G2 G5
            obtain ⟨j, hj, rfl, HW1, HX0, HA0, HBB⟩ := hrel
            have hsz : (⟨ls.toArray⟩ : ByteArray).size = ls.length := rfl
            by_cases hlt : j < ls.length
            · have hd : decide ((j : Int) < (ls.length : Int)) = true := by simp; omega
              have HTK := Lib.hid (show ls.take (j + 1) = ls.take j ++ [ls[j]] from List.take_succ_eq_append_getElem hlt)
              have HAS := Lib.hid (any_take_snoc r.badText ls hlt)
              have hcj : (⟨ls.toArray⟩ : ByteArray).data.toList[j]? = some ls[j] := by rw [List.toList_toArray, List.getElem?_eq_getElem hlt]
              have HMEM := Lib.hid (show ls.any r.badText = false → r.badText ls[j] = false from fun h => by
                rw [List.any_eq_false] at h
                have := h _ (List.getElem_mem hlt)
                simpa using this)
              obtain ⟨c, hc⟩ : ∃ c, ls[j] = c := ⟨_, rfl⟩
              rw [hc] at hcj HTK HAS HMEM
              obtain ⟨xr, hx⟩ : ∃ x, r.told (ls.take j) = x := ⟨_, rfl⟩
              rw [hx] at HX0
              have HXE := Lib.hid hx
              have HX := HX0
              have HCJ := Lib.hid hcj
              clear hc hx hcj HX0
              have w1 : IntKind.i64.wrap ((j : Int) + 1) = ((j + 1 : Nat) : Int) := by rw [IntKind.wrap_i64]; have := HLN.out; omega
              go_wp2_with fail
              refine wp_region_tail 15 (fun k' => List.lookup k' [(0, (.fix (.agg xr.cells))), (3, (.fix (.int .u8 (c.toNat : Nat)))), (4, (.fix (.agg r.cells))), (7, (.fix (.int .u8 (c.toNat : Nat)))), (8, (.fix (.int .u64 (r.num c.toNat : Nat)))), (9, (.fix (.agg r.cells))), (12, (.fix (.int .u8 (c.toNat : Nat)))), (13, (.fix (.string (r.txt c.toNat)))), (14, (.fix (.agg (r.foldStep xr c).cells)))]) (by as_aux_lemma => kernel_rfl) (by as_aux_lemma => kernel_rfl) (by as_aux_lemma => kernel_rfl) ?_
              simp only [List.take_succ_cons, List.take_zero]
              repeat (refine wpGrow_pure rfl (fun K hK => ?_); go_simp; refine hK.out _ ?_; clear hK K)
              refine wpGrow_eff _ rfl (fun wx he hcl => ?_) (fun _ K hK => ?_) rfl
              · clear hcl
                exact growAt_load_row rfl rfl (HX.out.below he HX.out.lt) Try.underlying31 rfl (rrec_size _)
              go_simp
              refine hK.out _ ?_
              clear hK K
              repeat (refine wpGrow_pure rfl (fun K hK => ?_); go_simp; refine hK.out _ ?_; clear hK K)
              refine wpGrow_eff _ rfl (fun wx he hcl => ?_) (fun _ K hK => ?_) rfl
              · clear hcl
                exact growAt_index rfl rfl rfl Try.underlying9 HCJ.out
              go_simp
              refine hK.out _ ?_
              clear hK K
              repeat (refine wpGrow_pure rfl (fun K hK => ?_); go_simp; refine hK.out _ ?_; clear hK K)
              refine wpGrow_eff _ rfl (fun wx he hcl => ?_) (fun _ K hK => ?_) rfl
              · clear hcl
                exact growAt_load_row rfl rfl (HW1.out.below he HW1.out.lt) Try.underlying31 rfl (rrec_size _)
              go_simp
              refine hK.out _ ?_
              clear hK K
              repeat (refine wpGrow_pure rfl (fun K hK => ?_); go_simp; refine hK.out _ ?_; clear hK K)
              refine wpGrow_eff _ rfl (fun wx he hcl => ?_) (fun _ K hK => ?_) rfl
              · clear hcl
                exact growAt_index rfl rfl rfl Try.underlying9 HCJ.out
              go_simp
              refine hK.out _ ?_
              clear hK K
              repeat (refine wpGrow_pure rfl (fun K hK => ?_); go_simp; refine hK.out _ ?_; clear hK K)
              refine wpGrow_eff _ rfl (fun wx he hcl => ?_) (fun _ K hK => ?_) rfl
              · clear hcl
                have hcon := number_any wx r c.toNat
                go_simp
                try exact hcon
              go_simp
              refine hK.out _ ?_
              clear hK K
              repeat (refine wpGrow_pure rfl (fun K hK => ?_); go_simp; refine hK.out _ ?_; clear hK K)
              refine wpGrow_eff _ rfl (fun wx he hcl => ?_) (fun _ K hK => ?_) rfl
              · clear hcl
                exact growAt_load_row rfl rfl (HW1.out.below he HW1.out.lt) Try.underlying31 rfl (rrec_size _)
              go_simp
              refine hK.out _ ?_
              clear hK K
              repeat (refine wpGrow_pure rfl (fun K hK => ?_); go_simp; refine hK.out _ ?_; clear hK K)
              refine wpGrow_eff _ rfl (fun wx he hcl => ?_) (fun _ K hK => ?_) rfl
              · clear hcl
                exact growAt_index rfl rfl rfl Try.underlying9 HCJ.out
              go_simp
              refine hK.out _ ?_
              clear hK K
              repeat (refine wpGrow_pure rfl (fun K hK => ?_); go_simp; refine hK.out _ ?_; clear hK K)
              refine wpGrow_eff _ rfl (fun wx he hcl => ?_) (fun _ K hK => ?_) rfl
              · clear hcl
                have hcon := textOf_any wx r c.toNat
                go_simp
                try exact hcon
              go_simp
              refine hK.out _ ?_
              clear hK K
              repeat (refine wpGrow_pure rfl (fun K hK => ?_); go_simp; refine hK.out _ ?_; clear hK K)
              refine wpGrow_eff _ rfl (fun wx he hcl => ?_) (fun _ K hK => ?_) rfl
              · clear hcl
                have hcon := with_any wx xr c.toNat (r.num c.toNat) (r.txt c.toNat)
                go_simp
                try exact hcon
              go_simp
              refine hK.out _ ?_
              clear hK K
              repeat (refine wpGrow_pure rfl (fun K hK => ?_); go_simp; refine hK.out _ ?_; clear hK K)
              refine wpGrow_nil fun wx he hfin => ?_
              clear hfin
              have HW8 := Lib.hid (HW1.out.below he HW1.out.lt)
              have HX8 := Lib.hid (HX.out.below he HX.out.lt)
              have HB8 := Lib.hid (HBB.out.trans (he.mono HBB.out.size))
              clear he HW1 HX HBB
              simp only [List.drop_succ_cons, List.drop_zero]
              go_wp2_with (refine wpList_store_row rfl 31 (.tmp 4) (.tmp 56) rfl g4 (r.foldStep xr c).cells rfl rfl 31 _ HX8.out (rrec_size _) rfl (rec_cells _) ?_)
              have g1 := HW8.out.row_far (k := g4) (by have := HG4.out; omega) (r.foldStep xr c).cells
              have g2 := HX8.out.row (r.foldStep xr c).cells
              have g3 := Below.setRow HB8.out (g := g4) (by have := HG4.out; omega) (r.foldStep xr c).cells
              generalize World.setRow wx g4 (r.foldStep xr c).cells = W8 at g1 g2 g3 ⊢
              have HW1 := Lib.hid g1
              have HX := Lib.hid g2
              have HBB := Lib.hid g3
              clear g1 g2 g3 HW8 HX8 HB8
              cases ht : Rc.isText c.toNat with
              | false =>
                have HT := Lib.hid ht
                have HAN := Lib.hid (show (ls.take (j + 1)).any r.badText = false by rw [HAS.out, HA0.out]; unfold Rc.badText; rw [ht]; rfl)
                clear ht
                go_wp2_with fail
                refine wp_region_grow (fun k' => List.lookup k' [(2, (.fix (.int .u8 (c.toNat : Nat)))), (3, (.fix (.bool false)))]) (by as_aux_lemma => kernel_rfl) (by as_aux_lemma => kernel_rfl) ?_
                repeat (refine wpGrow_pure rfl (fun K hK => ?_); go_simp; refine hK.out _ ?_; clear hK K)
                refine wpGrow_eff _ rfl (fun wx he hcl => ?_) (fun _ K hK => ?_) rfl
                · clear hcl
                  exact growAt_index rfl rfl rfl Try.underlying9 HCJ.out
                go_simp
                refine hK.out _ ?_
                clear hK K
                repeat (refine wpGrow_pure rfl (fun K hK => ?_); go_simp; refine hK.out _ ?_; clear hK K)
                refine wpGrow_eff _ rfl (fun wx he hcl => ?_) (fun _ K hK => ?_) rfl
                · clear hcl
                  have hcon := (show Calls Try.prog 25 #[.int .u8 (c.toNat : Nat)] wx (fun en w' => en = .returned (.bool false) ∧ Below wx.heap.size wx w') from by have := isText_any wx c.toNat; rwa [HT.out] at this)
                  go_simp
                  try exact hcon
                go_simp
                refine hK.out _ ?_
                clear hK K
                repeat (refine wpGrow_pure rfl (fun K hK => ?_); go_simp; refine hK.out _ ?_; clear hK K)
                refine wpGrow_nil fun wx he hfin => ?_
                clear hfin
                have HX9 := Lib.hid (HX.out.below he HX.out.lt)
                have HW9 := Lib.hid (HW1.out.below he HW1.out.lt)
                have HB9 := Lib.hid (HBB.out.trans (he.mono HBB.out.size))
                clear he
                go_wp2_with fail
                go_roundw
                case rel => exact ⟨j + 1, by omega, by first | rfl | go_num, HW9, (by rw [HTK.out, Rc.told_snoc, HXE.out]; exact HX9), HAN, HB9⟩
                case measure => simp [intOf] <;> omega
              | true =>
                have HT := Lib.hid ht
                clear ht
                by_cases h1 : (r.txt c.toNat).size < 1
                · have hd1 : decide (((r.txt c.toNat).size : Int) < 1) = true := by simp; omega
                  have HF := Lib.hid (show r.rright = false by
                    rw [HR.out]
                    cases hh : ls.any r.badText with
                    | true => rfl
                    | false =>
                      have h2 := HMEM.out hh
                      unfold Rc.badText at h2
                      rw [HT.out, decide_eq_true h1] at h2
                      simp at h2)
                  clear h1
                  go_wp2_with fail
                  refine wp_region_grow (fun k' => List.lookup k' [(2, (.fix (.int .u8 (c.toNat : Nat)))), (3, (.fix (.bool true))), (5, (.fix (.agg r.cells))), (8, (.fix (.int .u8 (c.toNat : Nat)))), (9, (.fix (.string (r.txt c.toNat))))]) (by as_aux_lemma => kernel_rfl) (by as_aux_lemma => kernel_rfl) ?_
                  repeat (refine wpGrow_pure rfl (fun K hK => ?_); go_simp; refine hK.out _ ?_; clear hK K)
                  refine wpGrow_eff _ rfl (fun wx he hcl => ?_) (fun _ K hK => ?_) rfl
                  · clear hcl
                    exact growAt_index rfl rfl rfl Try.underlying9 HCJ.out
                  go_simp
                  refine hK.out _ ?_
                  clear hK K
                  repeat (refine wpGrow_pure rfl (fun K hK => ?_); go_simp; refine hK.out _ ?_; clear hK K)
                  refine wpGrow_eff _ rfl (fun wx he hcl => ?_) (fun _ K hK => ?_) rfl
                  · clear hcl
                    have hcon := (show Calls Try.prog 25 #[.int .u8 (c.toNat : Nat)] wx (fun en w' => en = .returned (.bool true) ∧ Below wx.heap.size wx w') from by have := isText_any wx c.toNat; rwa [HT.out] at this)
                    go_simp
                    try exact hcon
                  go_simp
                  refine hK.out _ ?_
                  clear hK K
                  repeat (refine wpGrow_pure rfl (fun K hK => ?_); go_simp; refine hK.out _ ?_; clear hK K)
                  refine wpGrow_eff _ rfl (fun wx he hcl => ?_) (fun _ K hK => ?_) rfl
                  · clear hcl
                    exact growAt_load_row rfl rfl (HW1.out.below he HW1.out.lt) Try.underlying31 rfl (rrec_size _)
                  go_simp
                  refine hK.out _ ?_
                  clear hK K
                  repeat (refine wpGrow_pure rfl (fun K hK => ?_); go_simp; refine hK.out _ ?_; clear hK K)
                  refine wpGrow_eff _ rfl (fun wx he hcl => ?_) (fun _ K hK => ?_) rfl
                  · clear hcl
                    exact growAt_index rfl rfl rfl Try.underlying9 HCJ.out
                  go_simp
                  refine hK.out _ ?_
                  clear hK K
                  repeat (refine wpGrow_pure rfl (fun K hK => ?_); go_simp; refine hK.out _ ?_; clear hK K)
                  refine wpGrow_eff _ rfl (fun wx he hcl => ?_) (fun _ K hK => ?_) rfl
                  · clear hcl
                    have hcon := textOf_any wx r c.toNat
                    go_simp
                    try exact hcon
                  go_simp
                  refine hK.out _ ?_
                  clear hK K
                  repeat (refine wpGrow_pure rfl (fun K hK => ?_); go_simp; refine hK.out _ ?_; clear hK K)
                  refine wpGrow_nil fun wx he hfin => ?_
                  clear hfin
                  have HB9 := Lib.hid (HBB.out.trans (he.mono HBB.out.size))
                  clear he
                  go_wp2_with fail
                  go_ret
                  rw [HF.out]
                  exact ⟨rfl, HB9.out⟩
                · have hd1 : decide (((r.txt c.toNat).size : Int) < 1) = false := by simp; omega
                  by_cases h2 : 64 < (r.txt c.toNat).size
                  · have hd2 : decide ((64 : Int) < ((r.txt c.toNat).size : Int)) = true := by simp; omega
                    have HF := Lib.hid (show r.rright = false by
                      rw [HR.out]
                      cases hh : ls.any r.badText with
                      | true => rfl
                      | false =>
                        have h3 := HMEM.out hh
                        unfold Rc.badText at h3
                        rw [HT.out, decide_eq_true h2] at h3
                        simp at h3)
                    clear h1 h2
                    go_wp2_with fail
                    refine wp_region_grow (fun k' => List.lookup k' [(2, (.fix (.int .u8 (c.toNat : Nat)))), (3, (.fix (.bool true))), (5, (.fix (.agg r.cells))), (8, (.fix (.int .u8 (c.toNat : Nat)))), (9, (.fix (.string (r.txt c.toNat)))), (13, (.fix (.agg r.cells))), (16, (.fix (.int .u8 (c.toNat : Nat)))), (17, (.fix (.string (r.txt c.toNat))))]) (by as_aux_lemma => kernel_rfl) (by as_aux_lemma => kernel_rfl) ?_
                    repeat (refine wpGrow_pure rfl (fun K hK => ?_); go_simp; refine hK.out _ ?_; clear hK K)
                    refine wpGrow_eff _ rfl (fun wx he hcl => ?_) (fun _ K hK => ?_) rfl
                    · clear hcl
                      exact growAt_index rfl rfl rfl Try.underlying9 HCJ.out
                    go_simp
                    refine hK.out _ ?_
                    clear hK K
                    repeat (refine wpGrow_pure rfl (fun K hK => ?_); go_simp; refine hK.out _ ?_; clear hK K)
                    refine wpGrow_eff _ rfl (fun wx he hcl => ?_) (fun _ K hK => ?_) rfl
                    · clear hcl
                      have hcon := (show Calls Try.prog 25 #[.int .u8 (c.toNat : Nat)] wx (fun en w' => en = .returned (.bool true) ∧ Below wx.heap.size wx w') from by have := isText_any wx c.toNat; rwa [HT.out] at this)
                      go_simp
                      try exact hcon
                    go_simp
                    refine hK.out _ ?_
                    clear hK K
                    repeat (refine wpGrow_pure rfl (fun K hK => ?_); go_simp; refine hK.out _ ?_; clear hK K)
                    refine wpGrow_eff _ rfl (fun wx he hcl => ?_) (fun _ K hK => ?_) rfl
                    · clear hcl
                      exact growAt_load_row rfl rfl (HW1.out.below he HW1.out.lt) Try.underlying31 rfl (rrec_size _)
                    go_simp
                    refine hK.out _ ?_
                    clear hK K
                    repeat (refine wpGrow_pure rfl (fun K hK => ?_); go_simp; refine hK.out _ ?_; clear hK K)
                    refine wpGrow_eff _ rfl (fun wx he hcl => ?_) (fun _ K hK => ?_) rfl
                    · clear hcl
                      exact growAt_index rfl rfl rfl Try.underlying9 HCJ.out
                    go_simp
                    refine hK.out _ ?_
                    clear hK K
                    repeat (refine wpGrow_pure rfl (fun K hK => ?_); go_simp; refine hK.out _ ?_; clear hK K)
                    refine wpGrow_eff _ rfl (fun wx he hcl => ?_) (fun _ K hK => ?_) rfl
                    · clear hcl
                      have hcon := textOf_any wx r c.toNat
                      go_simp
                      try exact hcon
                    go_simp
                    refine hK.out _ ?_
                    clear hK K
                    repeat (refine wpGrow_pure rfl (fun K hK => ?_); go_simp; refine hK.out _ ?_; clear hK K)
                    refine wpGrow_eff _ rfl (fun wx he hcl => ?_) (fun _ K hK => ?_) rfl
                    · clear hcl
                      exact growAt_load_row rfl rfl (HW1.out.below he HW1.out.lt) Try.underlying31 rfl (rrec_size _)
                    go_simp
                    refine hK.out _ ?_
                    clear hK K
                    repeat (refine wpGrow_pure rfl (fun K hK => ?_); go_simp; refine hK.out _ ?_; clear hK K)
                    refine wpGrow_eff _ rfl (fun wx he hcl => ?_) (fun _ K hK => ?_) rfl
                    · clear hcl
                      exact growAt_index rfl rfl rfl Try.underlying9 HCJ.out
                    go_simp
                    refine hK.out _ ?_
                    clear hK K
                    repeat (refine wpGrow_pure rfl (fun K hK => ?_); go_simp; refine hK.out _ ?_; clear hK K)
                    refine wpGrow_eff _ rfl (fun wx he hcl => ?_) (fun _ K hK => ?_) rfl
                    · clear hcl
                      have hcon := textOf_any wx r c.toNat
                      go_simp
                      try exact hcon
                    go_simp
                    refine hK.out _ ?_
                    clear hK K
                    repeat (refine wpGrow_pure rfl (fun K hK => ?_); go_simp; refine hK.out _ ?_; clear hK K)
                    refine wpGrow_nil fun wx he hfin => ?_
                    clear hfin
                    have HB9 := Lib.hid (HBB.out.trans (he.mono HBB.out.size))
                    clear he
                    go_wp2_with fail
                    go_ret
                    rw [HF.out]
                    exact ⟨rfl, HB9.out⟩
                  · have hd2 : decide ((64 : Int) < ((r.txt c.toNat).size : Int)) = false := by simp; omega
                    have HAN := Lib.hid (show (ls.take (j + 1)).any r.badText = false by rw [HAS.out, HA0.out]; unfold Rc.badText; rw [HT.out, decide_eq_false h1, decide_eq_false h2]; rfl)
                    clear h1 h2
                    go_wp2_with fail
                    refine wp_region_grow (fun k' => List.lookup k' [(2, (.fix (.int .u8 (c.toNat : Nat)))), (3, (.fix (.bool true))), (5, (.fix (.agg r.cells))), (8, (.fix (.int .u8 (c.toNat : Nat)))), (9, (.fix (.string (r.txt c.toNat)))), (13, (.fix (.agg r.cells))), (16, (.fix (.int .u8 (c.toNat : Nat)))), (17, (.fix (.string (r.txt c.toNat))))]) (by as_aux_lemma => kernel_rfl) (by as_aux_lemma => kernel_rfl) ?_
                    repeat (refine wpGrow_pure rfl (fun K hK => ?_); go_simp; refine hK.out _ ?_; clear hK K)
                    refine wpGrow_eff _ rfl (fun wx he hcl => ?_) (fun _ K hK => ?_) rfl
                    · clear hcl
                      exact growAt_index rfl rfl rfl Try.underlying9 HCJ.out
                    go_simp
                    refine hK.out _ ?_
                    clear hK K
                    repeat (refine wpGrow_pure rfl (fun K hK => ?_); go_simp; refine hK.out _ ?_; clear hK K)
                    refine wpGrow_eff _ rfl (fun wx he hcl => ?_) (fun _ K hK => ?_) rfl
                    · clear hcl
                      have hcon := (show Calls Try.prog 25 #[.int .u8 (c.toNat : Nat)] wx (fun en w' => en = .returned (.bool true) ∧ Below wx.heap.size wx w') from by have := isText_any wx c.toNat; rwa [HT.out] at this)
                      go_simp
                      try exact hcon
                    go_simp
                    refine hK.out _ ?_
                    clear hK K
                    repeat (refine wpGrow_pure rfl (fun K hK => ?_); go_simp; refine hK.out _ ?_; clear hK K)
                    refine wpGrow_eff _ rfl (fun wx he hcl => ?_) (fun _ K hK => ?_) rfl
                    · clear hcl
                      exact growAt_load_row rfl rfl (HW1.out.below he HW1.out.lt) Try.underlying31 rfl (rrec_size _)
                    go_simp
                    refine hK.out _ ?_
                    clear hK K
                    repeat (refine wpGrow_pure rfl (fun K hK => ?_); go_simp; refine hK.out _ ?_; clear hK K)
                    refine wpGrow_eff _ rfl (fun wx he hcl => ?_) (fun _ K hK => ?_) rfl
                    · clear hcl
                      exact growAt_index rfl rfl rfl Try.underlying9 HCJ.out
                    go_simp
                    refine hK.out _ ?_
                    clear hK K
                    repeat (refine wpGrow_pure rfl (fun K hK => ?_); go_simp; refine hK.out _ ?_; clear hK K)
                    refine wpGrow_eff _ rfl (fun wx he hcl => ?_) (fun _ K hK => ?_) rfl
                    · clear hcl
                      have hcon := textOf_any wx r c.toNat
                      go_simp
                      try exact hcon
                    go_simp
                    refine hK.out _ ?_
                    clear hK K
                    repeat (refine wpGrow_pure rfl (fun K hK => ?_); go_simp; refine hK.out _ ?_; clear hK K)
                    refine wpGrow_eff _ rfl (fun wx he hcl => ?_) (fun _ K hK => ?_) rfl
                    · clear hcl
                      exact growAt_load_row rfl rfl (HW1.out.below he HW1.out.lt) Try.underlying31 rfl (rrec_size _)
                    go_simp
                    refine hK.out _ ?_
                    clear hK K
                    repeat (refine wpGrow_pure rfl (fun K hK => ?_); go_simp; refine hK.out _ ?_; clear hK K)
                    refine wpGrow_eff _ rfl (fun wx he hcl => ?_) (fun _ K hK => ?_) rfl
                    · clear hcl
                      exact growAt_index rfl rfl rfl Try.underlying9 HCJ.out
                    go_simp
                    refine hK.out _ ?_
                    clear hK K
                    repeat (refine wpGrow_pure rfl (fun K hK => ?_); go_simp; refine hK.out _ ?_; clear hK K)
                    refine wpGrow_eff _ rfl (fun wx he hcl => ?_) (fun _ K hK => ?_) rfl
                    · clear hcl
                      have hcon := textOf_any wx r c.toNat
                      go_simp
                      try exact hcon
                    go_simp
                    refine hK.out _ ?_
                    clear hK K
                    repeat (refine wpGrow_pure rfl (fun K hK => ?_); go_simp; refine hK.out _ ?_; clear hK K)
                    refine wpGrow_nil fun wx he hfin => ?_
                    clear hfin
                    have HX9 := Lib.hid (HX.out.below he HX.out.lt)
                    have HW9 := Lib.hid (HW1.out.below he HW1.out.lt)
                    have HB9 := Lib.hid (HBB.out.trans (he.mono HBB.out.size))
                    clear he
                    go_wp2_with fail
                    go_roundw
                    case rel => exact ⟨j + 1, by omega, by first | rfl | go_num, HW9, (by rw [HTK.out, Rc.told_snoc, HXE.out]; exact HX9), HAN, HB9⟩
                    case measure => simp [intOf] <;> omega
            · obtain rfl : j = ls.length := by omega
              have hd : decide ((ls.length : Int) < (ls.length : Int)) = false := by simp
              have ht : ls.take ls.length = ls := List.take_length
              rw [ht] at HX0 HA0
              have HE := Lib.hid (show r.rright = (r.told ls).eqB r by rw [HR.out, HA0.out]; simp)
              obtain ⟨xr, hx⟩ : ∃ x, r.told ls = x := ⟨_, rfl⟩
              rw [hx] at HX0 HE
              have heq : ∀ w : World, (binOp .eql 31 (.agg xr.cells) (.agg r.cells)).run Try.prog w = .ok (.bool (xr.eqB r)) w := fun w => rrec_eq w _ _
              have hgd := rrec_guard
              clear ht hx hlt hj
              go_wp2_with (first
                | (refine wpList_load_row rfl 31 (.tmp 4) rfl g4 rfl 31 xr.cells (0, 0) _ ?_ Try.underlying31 rfl (rrec_size xr) ?_; · exact HX0.out)
                | (refine wpList_load_row rfl 31 (.tmp 1) rfl w.heap.size rfl 31 r.cells (0, 0) _ ?_ Try.underlying31 rfl (rrec_size r) ?_; · exact HW1.out))
              go_ret
              rw [HE.out]
              exact ⟨rfl, HBB.out⟩
end Go.Proofs.Ytmobgamlednlhaa
namespace Go.Proofs.Ytmobgamlednlhaa
open Go.RowKit
theorem KMap.base {w : World} {a b g : Nat} {l : List (Nat × List Nat)} (h : KMap w b g l) (hb : a ≤ b) : KMap w a g l :=
  ⟨Nat.le_trans hb h.1, h.2.imp fun _ h => ⟨h.1, h.2.1, fun i hi => (h.2.2 i hi).imp fun _ h => ⟨h.1, h.2.1, h.2.2.imp fun _ h => ⟨h.1, Nat.le_trans hb h.2.1, h.2.2⟩⟩⟩⟩
/-- A call hands back bytes in new memory and a number. -/
def GSpec.put (base : Nat) (bs : List UInt8) (e : Nat) : GSpec :=
  ⟨Option Addr × Nat, (none, 0), fun x => .tuple #[.slice x.1 bs.length x.2, .int .i64 (e : Nat)], fun _ _ x w => w.ownsRow base 5 1 (.slice x.1 bs.length x.2) bs.length (byts bs), fun _ _ _ _ => rfl,
    fun _ _ _ _ _ h k => own_ext h k⟩
attribute [local go_sem] Instr.makeFunc Oper.growAt Oper.growUpon GSpec.fix GSpec.row GSpec.wh GSpec.own GSpec.box GSpec.kmap GSpec.lk1 GSpec.put match_undef
attribute [local irreducible] wpList
namespace Rc
/-- What a record is written as. -/
def body (r : Rc) : List UInt8 := r.enc (places r.k)
def putB (r : Rc) : List UInt8 := if r.right = true then Fra.bytes (UInt8.ofNat r.k) r.body else []
def putE (r : Rc) : Nat := if r.right = true then 0 else 2
theorem body_length {r : Rc} (h : r.right = true) : r.body.length ≤ 770 := by
  have h1 := enc_length r (fun i => Nat.le_trans (right_small h i) (by decide)) (places r.k)
  have h2 := pl_len r.k
  have h3 : (places r.k).length = 3 + (pl r.k).length := by unfold places; rw [List.length_append, List.length_map]; rfl
  unfold body
  omega
end Rc
/-- A record is put: what the call hands back. -/
def PutP (r : Rc) (w : World) (en : Ending) (w' : World) : Prop :=
  ∃ D c, en = .returned (.tuple #[.slice D r.putB.length c, .int .i64 (r.putE : Nat)]) ∧ w'.ownsRow w.heap.size 5 1 (.slice D r.putB.length c) r.putB.length (byts r.putB) ∧ Below w.heap.size w w'
set_option maxRecDepth 100000 in
set_option maxHeartbeats 16000000 in
theorem put_rec_any (w : World) (r : Rc) (hok : r.ok) : Calls Try.prog 12 #[r.val] w (PutP r w) := by
  unfold Rc.val
  have W1 := Lib.hid (Whole.new w 24 r.cells)
  have B1 := Lib.hid (belowK w (.cells r.cells 24))
  have HOK := Lib.hid hok
  have HR1 := Lib.hid (right_any (w.alloc (.cells r.cells 24)) r hok)
  have hval : r.val = .agg r.cells := rfl
  rw [hval] at HR1
  clear hok hval
  cases hr : r.right with
  | false =>
    have HPB := Lib.hid (show r.putB = [] by unfold Rc.putB; rw [hr]; rfl)
    have HPE := Lib.hid (show r.putE = 2 by unfold Rc.putE; rw [hr]; rfl)
    rw [hr] at HR1
    clear hr
    go_enter Try.func12, Try.ntmps12
    go_wp2_with (refine wpList_load_row rfl 24 (.tmp 1) rfl w.heap.size rfl 24 r.cells (0, 0) _ ?_ Try.underlying24 rfl (rec_size r) ?_; · exact W1.out)
    refine HR1.out.mono ?_
    clear HR1
    rintro en w2 ⟨rfl, hb2⟩
    have HB2 := Lib.hid hb2
    clear hb2
    go_wp2_with fail
    go_ret2
    unfold PutP
    rw [HPB.out, HPE.out]
    exact ⟨none, 0, rfl, World.ownsRow_nil _ _ _ _, B1.out.trans (HB2.out.mono B1.out.size)⟩
  | true =>
    have HK := Lib.hid (show 1 ≤ r.k ∧ r.k ≤ 11 by
      unfold Rc.right at hr
      simp only [Bool.and_eq_true, decide_eq_true_eq] at hr
      exact hr.1.1.1.1)
    have HSM := Lib.hid (Rc.right_small hr)
    have HBL0 := Lib.hid (Rc.body_length hr)
    have HPB0 := Lib.hid (show r.putB = Fra.bytes (UInt8.ofNat r.k) r.body by unfold Rc.putB; rw [hr]; rfl)
    have HPE0 := Lib.hid (show r.putE = 0 by unfold Rc.putE; rw [hr]; rfl)
    rw [hr] at HR1
    clear hr
    go_enter Try.func12, Try.ntmps12
    go_wp2_with (refine wpList_load_row rfl 24 (.tmp 1) rfl w.heap.size rfl 24 r.cells (0, 0) _ ?_ Try.underlying24 rfl (rec_size r) ?_; · exact W1.out)
    refine HR1.out.mono ?_
    clear HR1
    rintro en w1 ⟨rfl, hb2⟩
    have g1 := (W1.out.below hb2 W1.out.lt).alloc (.cells #[.slice none 0 0] 58)
    have g2 := Whole.new w1 58 #[.slice none 0 0]
    have g3 := B1.out.trans ((hb2.mono B1.out.size).trans ((Below.refl w.heap.size w1).alloc (Nat.le_trans B1.out.size hb2.size) (.cells #[.slice none 0 0] 58)))
    have G0 := Lib.hid (Nat.le_trans B1.out.size hb2.size)
    have GW1 := Lib.hid (W1.out.below hb2 W1.out.lt).lt
    clear hb2
    go_wp2_with fail
    obtain ⟨g4, hg4⟩ : ∃ g, g = w1.heap.size := ⟨_, rfl⟩
    rw [← hg4] at g2 ⊢
    have HG4 := Lib.hid (show w.heap.size < g4 by rw [hg4]; exact GW1.out)
    clear hg4 G0 GW1
    generalize w1.alloc (.cells #[.slice none 0 0] 58) = wa at g1 g2 g3 ⊢
    have G1 := Lib.hid g1
    have G2 := Lib.hid g2
    have G3 := Lib.hid g3
    have HSZ := Lib.hid g3.size
    have GL := Lib.hid g1.lt
    have Q0 := Lib.hid (show wa.cell? ⟨w.heap.size, 0, none⟩ = some (.int .u8 (r.k : Nat)) from g1.cell 0)
    clear g1 g2 g3
    refine wp_region_tail 6 (fun k' => List.lookup k' [(2, (.kmap wa.heap.size)), (4, (.fix (.int .u8 (r.k : Nat)))), (5, (.lk1 wa.heap.size (Rc.pl r.k)))]) (by as_aux_lemma => kernel_rfl) (by as_aux_lemma => kernel_rfl) (by as_aux_lemma => kernel_rfl) ?_
    simp only [List.take_succ_cons, List.take_zero]
    repeat (refine wpGrow_pure rfl (fun K hK => ?_); go_simp; refine hK.out _ ?_; clear hK K)
    refine wpGrow_eff _ rfl (fun wx he hcl => ?_) (fun gm K hK => ?_) rfl
    · clear hcl
      have hsz := he.size
      have hcon := kinds_any wx
      go_simp
      exact hcon.mono fun e w2 ⟨g, he1, h1, h2⟩ => ⟨g, he1, h1.base hsz, h2⟩
    go_simp
    refine hK.out _ ?_
    clear hK K
    repeat (refine wpGrow_pure rfl (fun K hK => ?_); go_simp; refine hK.out _ ?_; clear hK K)
    refine wpGrow_eff _ rfl (fun wx he hcl => ?_) (fun _ K hK => ?_) rfl
    · clear hcl
      have hq := (he.cell (p := ⟨w.heap.size, 0, none⟩) GL.out).trans Q0.out
      go_simp
      exact Below.refl _ _
    go_simp
    refine hK.out _ ?_
    clear hK K
    repeat (refine wpGrow_pure rfl (fun K hK => ?_); go_simp; refine hK.out _ ?_; clear hK K)
    refine wpGrow_eff _ rfl (fun wx he hcl => ?_) (fun b K hK => ?_) rfl
    · have hkm : KMap wx wa.heap.size gm Rec.kinds := hcl.out 2 (by kernel_rfl)
      obtain ⟨b, h1, h2, _, h3⟩ := kmap_found hkm HK.out.1 HK.out.2
      exact growAt_lookup rfl rfl rfl h3 ⟨b, rfl, h1, h2⟩
    go_simp
    refine hK.out _ ?_
    clear hK K
    repeat (refine wpGrow_pure rfl (fun K hK => ?_); go_simp; refine hK.out _ ?_; clear hK K)
    refine wpGrow_nil fun wx he hfin => ?_
    have hpr : wa.heap.size ≤ b ∧ Whole wx b 94 (smalls (Rc.pl r.k)).toArray := hfin.out 5
    clear hfin
    have BL := Lib.hid hpr.2.lt
    have HV := Lib.hid (visit_writer wx w.heap.size g4 24 58 r HOK.out (fun i => Nat.le_trans (HSM.out i) (by decide)) (G1.out.below he G1.out.lt) (G2.out.below he G2.out.lt) (by have := HG4.out; omega) (some ⟨b, 0, none⟩) (Rc.pl r.k).length (Rc.pl r.k).length (Rc.pl r.k) (Rc.pl_lt _) (parts_rd hpr.2 hpr.2.lt) (fun _ bb o h => by
      cases h
      have h1 := hpr.1
      have h2 := G2.out.lt
      have h3 := GL.out
      constructor <;> omega) (by have := Rc.pl_len r.k; omega))
    have HE := Lib.hid he
    clear hpr he
    simp only [List.drop_succ_cons, List.drop_zero]
    go_wp2_with fail
    refine HV.out.mono ?_
    clear HV
    rintro en w2 ⟨rfl, v1, ⟨Ab, cb, v2, v3⟩, v4⟩
    obtain ⟨bl, hbl⟩ : ∃ l, r.body = l := ⟨_, rfl⟩
    have hbl2 : r.enc ([1, 2, 3] ++ (Rc.pl r.k).map (· + 4)) = bl := hbl
    rw [hbl2] at v2 v3
    have HPB := Lib.hid (show r.putB = Fra.bytes (UInt8.ofNat r.k) bl by rw [← hbl]; exact HPB0.out)
    have HBL := Lib.hid (show bl.length ≤ 770 by rw [← hbl]; exact HBL0.out)
    clear hbl hbl2 HPB0 HBL0
    have QA := Lib.hid (show w2.cell? ⟨w.heap.size, 0, none⟩ = some (.int .u8 (r.k : Nat)) from v1.cell 0)
    have GLA := Lib.hid v1.lt
    have QB := Lib.hid (show w2.cell? ⟨g4, 0, none⟩ = some (.slice Ab bl.length cb) from v2.cell 0)
    have GLB := Lib.hid v2.lt
    have HOW := Lib.hid v3
    have HSB := Lib.hid (show w.heap.size ≤ w2.heap.size from Nat.le_of_lt v1.lt)
    have HF1 := Lib.hid (show Fra.putB (UInt8.ofNat r.k) bl = Fra.bytes (UInt8.ofNat r.k) bl by unfold Fra.putB; rw [if_neg (by have := HBL.out; omega)])
    have HF2 := Lib.hid (show Fra.putE bl = 0 by unfold Fra.putE; rw [if_neg (by have := HBL.out; omega)])
    have HU8 := Lib.hid (show (UInt8.ofNat r.k).toNat = r.k by rw [UInt8.toNat_ofNat']; exact Nat.mod_eq_of_lt HOK.out.1)
    have HB5 := Lib.hid (G3.out.trans ((HE.out.mono HSZ.out).trans (v4.below (H := w.heap.size) (Nat.le_trans HSZ.out HE.out.size) (Nat.le_refl _) (Nat.le_of_lt HG4.out))))
    clear v1 v2 v3 v4
    go_wp2_with fail
    refine wp_region_grow (fun k' => List.lookup k' [(1, (.fix (.int .u8 (r.k : Nat)))), (5, (.fix (.slice Ab bl.length cb))), (7, (.put w.heap.size (Fra.bytes (UInt8.ofNat r.k) bl) 0))]) (by as_aux_lemma => kernel_rfl) (by as_aux_lemma => kernel_rfl) ?_
    repeat (refine wpGrow_pure rfl (fun K hK => ?_); go_simp; refine hK.out _ ?_; clear hK K)
    refine wpGrow_eff _ rfl (fun wx he hcl => ?_) (fun _ K hK => ?_) rfl
    · clear hcl
      have hq := (he.cell (p := ⟨w.heap.size, 0, none⟩) GLA.out).trans QA.out
      go_simp
      exact Below.refl _ _
    go_simp
    refine hK.out _ ?_
    clear hK K
    repeat (refine wpGrow_pure rfl (fun K hK => ?_); go_simp; refine hK.out _ ?_; clear hK K)
    refine wpGrow_eff _ rfl (fun wx he hcl => ?_) (fun _ K hK => ?_) rfl
    · clear hcl
      have hq := (he.cell (p := ⟨g4, 0, none⟩) GLB.out).trans QB.out
      go_simp
      exact Below.refl _ _
    go_simp
    refine hK.out _ ?_
    clear hK K
    repeat (refine wpGrow_pure rfl (fun K hK => ?_); go_simp; refine hK.out _ ?_; clear hK K)
    refine wpGrow_eff _ rfl (fun wx he hcl => ?_) (fun ⟨D, c⟩ K hK => ?_) rfl
    · clear hcl
      have hsz := Nat.le_trans HSB.out he.size
      have hcon := fput_any wx (UInt8.ofNat r.k) Ab bl.length cb bl w2.heap.size he.size ((Rd.of_own HOW.out).below he) (by have := HBL.out; omega)
      rw [HU8.out, HF1.out, HF2.out] at hcon
      go_simp
      exact hcon.mono fun e w3 ⟨D, c, he1, ho, hb⟩ => ⟨D, c, he1, own_base ho hsz, hb⟩
    go_simp
    refine hK.out _ ?_
    clear hK K
    repeat (refine wpGrow_pure rfl (fun K hK => ?_); go_simp; refine hK.out _ ?_; clear hK K)
    refine wpGrow_nil fun wy he hfin => ?_
    have hout : wy.ownsRow w.heap.size 5 1 (.slice D (Fra.bytes (UInt8.ofNat r.k) bl).length c) (Fra.bytes (UInt8.ofNat r.k) bl).length (byts (Fra.bytes (UInt8.ofNat r.k) bl)) := hfin.out 7
    clear hfin
    have HO6 := Lib.hid hout
    have HB6 := Lib.hid (HB5.out.trans (he.mono HSB.out))
    clear hout he
    go_wp2_with fail
    go_ret2
    unfold PutP
    rw [HPB.out, HPE0.out]
    exact ⟨D, c, rfl, HO6.out, HB6.out⟩
end Go.Proofs.Ytmobgamlednlhaa
namespace Go.Proofs.Ytmobgamlednlhaa
open Go.RowKit
theorem refHead_any (w : World) (r : Rc) (hok : r.ok) (b B : Nat) (hB : B ≤ w.heap.size) (hb : b < B) (h : Whole w b 22 #[.int .u64 (r.proc : Nat), .int .u64 (r.inc : Nat), .int .u64 (r.seq : Nat)]) :
    Calls Try.prog 23 #[.slice (some ⟨b, 0, none⟩) 3 3] w (Fresh w.heap.size 5 1 (r.enc [1, 2, 3]).length (byts (r.enc [1, 2, 3])) w) := by
  obtain ⟨_, h1, h2, h3, _⟩ := hok
  have e1 : (UInt64.ofNat r.proc).toNat = r.proc := by rw [UInt64.toNat_ofNat']; exact Nat.mod_eq_of_lt h1
  have e2 : (UInt64.ofNat r.inc).toNat = r.inc := by rw [UInt64.toNat_ofNat']; exact Nat.mod_eq_of_lt h2
  have e3 : (UInt64.ofNat r.seq).toNat = r.seq := by rw [UInt64.toNat_ofNat']; exact Nat.mod_eq_of_lt h3
  have hn : nums [UInt64.ofNat r.proc, UInt64.ofNat r.inc, UInt64.ofNat r.seq] = [.int .u64 (r.proc : Nat), .int .u64 (r.inc : Nat), .int .u64 (r.seq : Nat)] := by
    unfold nums
    simp only [List.map_cons, List.map_nil, e1, e2, e3]
  have hr := Rd.of_heap (n := 3) (B := B) h hb (Nat.le_refl _)
  have hp : puts [UInt64.ofNat r.proc, UInt64.ofNat r.inc, UInt64.ofNat r.seq] = r.enc [1, 2, 3] := by
    unfold puts Rc.enc
    simp only [List.map_cons, List.map_nil, e1, e2, e3]
    rfl
  rw [← hp]
  refine refAll_any w _ 3 3 _ B hB ?_ (by omega)
  rw [hn]
  exact hr
attribute [local go_sem] Instr.makeFunc Oper.growAt Oper.growUpon GSpec.fix GSpec.row GSpec.wh GSpec.own GSpec.box GSpec.kmap GSpec.lk1 GSpec.put match_undef
attribute [local irreducible] wpList
set_option maxRecDepth 100000 in
set_option maxHeartbeats 16000000 in
theorem rput_rec_any (w : World) (r : Rc) (hok : r.ok) : Calls Try.prog 10 #[r.val] w (PutP r w) := by
  unfold Rc.val
  have W1 := Lib.hid (Whole.new w 31 r.cells)
  have B1 := Lib.hid (belowK w (.cells r.cells 31))
  have HOK := Lib.hid hok
  have hr1 := rright_any (w.alloc (.cells r.cells 31)) r hok
  rw [← Rc.right_rright] at hr1
  have hval : r.val = .agg r.cells := rfl
  rw [hval] at hr1
  have HR1 := Lib.hid hr1
  clear hok hval hr1
  cases hr : r.right with
  | false =>
    have HPB := Lib.hid (show r.putB = [] by unfold Rc.putB; rw [hr]; rfl)
    have HPE := Lib.hid (show r.putE = 2 by unfold Rc.putE; rw [hr]; rfl)
    rw [hr] at HR1
    clear hr
    go_enter Try.func10, Try.ntmps10
    go_wp2_with (refine wpList_load_row rfl 31 (.tmp 1) rfl w.heap.size rfl 31 r.cells (0, 0) _ ?_ Try.underlying31 rfl (rrec_size r) ?_; · exact W1.out)
    refine HR1.out.mono ?_
    clear HR1
    rintro en w2 ⟨rfl, hb2⟩
    have HB2 := Lib.hid hb2
    clear hb2
    go_wp2_with fail
    go_ret2
    unfold PutP
    rw [HPB.out, HPE.out]
    exact ⟨none, 0, rfl, World.ownsRow_nil _ _ _ _, B1.out.trans (HB2.out.mono B1.out.size)⟩
  | true =>
    have HSM := Lib.hid (Rc.right_small hr)
    have HBL := Lib.hid (Rc.body_length hr)
    have HPB := Lib.hid (show r.putB = Fra.bytes (UInt8.ofNat r.k) r.body by unfold Rc.putB; rw [hr]; rfl)
    have HPE := Lib.hid (show r.putE = 0 by unfold Rc.putE; rw [hr]; rfl)
    rw [hr] at HR1
    clear hr
    go_enter Try.func10, Try.ntmps10
    go_wp2_with (refine wpList_load_row rfl 31 (.tmp 1) rfl w.heap.size rfl 31 r.cells (0, 0) _ ?_ Try.underlying31 rfl (rrec_size r) ?_; · exact W1.out)
    refine HR1.out.mono ?_
    clear HR1
    rintro en w1 ⟨rfl, hb2⟩
    have V1 := Lib.hid (W1.out.below hb2 W1.out.lt)
    have VB := Lib.hid (B1.out.trans (hb2.mono B1.out.size))
    have VS := Lib.hid (show w.heap.size + 1 ≤ w1.heap.size from by have h := hb2.size; simpa using h)
    have p1 : w1.cell? ⟨w.heap.size, 1, none⟩ = some (.int .u64 (r.proc : Nat)) := V1.out.cell 1
    have p2 : w1.cell? ⟨w.heap.size, 2, none⟩ = some (.int .u64 (r.inc : Nat)) := V1.out.cell 2
    have p3 : w1.cell? ⟨w.heap.size, 3, none⟩ = some (.int .u64 (r.seq : Nat)) := V1.out.cell 3
    clear hb2
    go_wp2_with fail
    refine (refHead_any _ r HOK.out w1.heap.size (w1.heap.size + 1) (by simp) (by omega) (Whole.new _ _ _)).mono ?_
    rintro en w2 ⟨D, c, rfl, ho, hb⟩
    have V2 := Lib.hid ((V1.out.alloc _).below hb (V1.out.alloc _).lt)
    have VB2 := Lib.hid ((VB.out.alloc VB.out.size _).trans (hb.mono ((VB.out.alloc VB.out.size _).size)))
    have VS2 := Lib.hid (show w.heap.size + 1 ≤ w2.heap.size from Nat.le_trans VS.out (Nat.le_trans (by simp) hb.size))
    have HO := Lib.hid (own_base (base := w.heap.size + 1) ho (Nat.le_trans VS.out (by simp)))
    clear ho hb p1 p2 p3 V1 VB VS
    have p0 : w2.cell? ⟨w.heap.size, 0, none⟩ = some (.int .u8 (r.k : Nat)) := V2.out.cell 0
    obtain ⟨ls, hls⟩ : ∃ l, Rc.letters r.k = l := ⟨_, rfl⟩
    have HLN0 := Lib.hid (show ls.length = (Rc.pl r.k).length by rw [← hls]; exact Rc.letters_length _)
    have HLA := Lib.hid (show ∀ j (h : j < (Rc.pl r.k).length), ls[j]? = some (Rc.lett (Rc.pl r.k)[j]) from fun j h => by rw [← hls]; exact Rc.letters_at h)
    have HLN := Lib.hid (show ls.length ≤ 4 by rw [HLN0.out]; exact Rc.pl_len _)
    have HCP := Lib.hid (parts_any w2 r.k HOK.out.1)
    rw [hls] at HCP
    clear hls
    go_wp2_with fail
    refine HCP.out.mono ?_
    clear HCP
    rintro en w3 ⟨rfl, hb3⟩
    have V3 := Lib.hid (V2.out.below hb3 V2.out.lt)
    have VB3 := Lib.hid ((VB2.out.mono (Nat.le_refl _)).trans (hb3.mono VB2.out.size))
    have VS3 := Lib.hid (Nat.le_trans VS2.out hb3.size)
    have HO3 := Lib.hid (own_ext HO.out hb3)
    clear hb3 p0 V2 VB2 VS2 HO
    go_wp2_with fail
    go_loopw [4, 6] (fun v i wr => ∃ (j L : Nat) (D : Option Addr) (c : Nat), j ≤ ls.length ∧ i = .int .i64 j ∧ v = .slice D L c ∧ Hid (Whole wr w.heap.size 31 r.cells) ∧ Hid ((r.enc (Rc.pre r.k j)).length = L ∧ wr.ownsRow (w.heap.size + 1) 5 1 (.slice D L c) L (byts (r.enc (Rc.pre r.k j)))) ∧ Hid (Below w.heap.size w wr) ∧ Hid (w.heap.size + 1 ≤ wr.heap.size)) (fun _ i _ => ls.length - (intOf i).toNat)
    case atStart => exact ⟨0, _, D, c, Nat.zero_le _, rfl, rfl, V3, Lib.hid ⟨rfl, HO3.out⟩, VB3, VS3⟩
    case round =>
      clear V3 HO3 VB3 VS3
      obtain ⟨j, L, D, c, hj, rfl, rfl, HW1, HOL, HBB, HBS⟩ := hrel
      have HLE := Lib.hid HOL.out.1
      have HOW := Lib.hid HOL.out.2
      have hsz : (⟨ls.toArray⟩ : ByteArray).size = ls.length := rfl
      clear HOL
      by_cases hlt : j < ls.length
      · have hd : decide ((j : Int) < (ls.length : Int)) = true := by simp; omega
        have hjp : j < (Rc.pl r.k).length := by rw [← HLN0.out]; exact hlt
        have HP8 := Lib.hid (Rc.pl_lt r.k _ (List.getElem_mem hjp))
        have HTK := Lib.hid (Rc.pre_succ hjp)
        have hcj := HLA.out j hjp
        have HLL := Lib.hid (show L ≤ 770 by
          have h1 := Rc.enc_length r (fun i => Nat.le_trans (HSM.out i) (by decide)) (Rc.pre r.k j)
          have h2 : (Rc.pre r.k j).length ≤ 7 := by
            unfold Rc.pre
            rw [List.length_append, List.length_map, List.length_take]
            have := Rc.pl_len r.k
            simp
            omega
          rw [HLE.out] at h1
          omega)
        obtain ⟨p, hp⟩ : ∃ p, (Rc.pl r.k)[j] = p := ⟨_, rfl⟩
        rw [hp] at hcj HTK HP8
        obtain ⟨cl, hc⟩ : ∃ c, Rc.lett p = c := ⟨_, rfl⟩
        rw [hc] at hcj
        have HC := Lib.hid hc
        have hcj2 : (⟨ls.toArray⟩ : ByteArray).data.toList[j]? = some cl := by rw [List.toList_toArray]; exact hcj
        have HCJ := Lib.hid hcj2
        have hix : ∀ w : World, (Instr.index 9 (.string ⟨ls.toArray⟩) (.int .i64 (j : Nat))).run Try.prog w = .ok (.int .u8 (cl.toNat : Nat)) w := fun w => run_index_str Try.underlying9 hcj2 _
        have w1 : IntKind.i64.wrap ((j : Int) + 1) = ((j + 1 : Nat) : Int) := by rw [IntKind.wrap_i64]; have := HLN.out; omega
        have h0j : (0 : Int) ≤ (j : Int) := by omega
        have h1j : (j : Int) < (ls.length : Int) := by omega
        have hjs : j < ls.length := hlt
        have hgj : ls[j] = cl := by
          rw [List.getElem?_eq_getElem hlt] at hcj
          injection hcj
        clear hcj2 hcj hjp hp hc
        go_wp2_with fail
        have hct := isText_any wr cl.toNat
        rw [← HC.out, Rc.lett_text HP8.out, HC.out] at hct
        by_cases h6 : 6 ≤ p
        · rw [decide_eq_true h6] at hct
          have hs0 : r.txt cl.toNat = r.tat (p + 4) := by rw [← HC.out]; exact Rc.lett_txt r h6 HP8.out
          have hz0 := HSM.out (p + 4)
          have hes : r.encStep (p + 4) = Var.put (r.tat (p + 4)).size ++ (r.tat (p + 4)).data.toList := by unfold Rc.encStep; rw [if_neg (by omega)]
          have hel := Rc.encStep_length r (p + 4) (Nat.le_trans hz0 (by decide))
          obtain ⟨s, hs⟩ : ∃ s, r.tat (p + 4) = s := ⟨_, rfl⟩
          rw [hs] at hs0 hz0 hes
          obtain ⟨E, hE⟩ : ∃ E, Var.put s.size ++ s.data.toList = E := ⟨_, rfl⟩
          rw [hE] at hes
          rw [hes] at hel
          have HS := Lib.hid hs0
          have HSS := Lib.hid (Nat.le_trans hz0 (show 64 ≤ 100000 by decide))
          have HES := Lib.hid hes
          have HEL := Lib.hid hel
          have HE := Lib.hid hE
          clear h6 hs0 hz0 hes hel hs hE
          refine hct.mono ?_
          clear hct
          rintro en w4 ⟨rfl, hb4⟩
          replace HBB := Lib.hid (HBB.out.trans (hb4.mono HBB.out.size))
          replace HBS := Lib.hid (Nat.le_trans HBS.out hb4.size)
          replace HW1 := Lib.hid (HW1.out.below hb4 HW1.out.lt)
          replace HOW := Lib.hid (own_ext HOW.out hb4)
          clear hb4
          go_wp2_with fail
          refine wp_region_tail 7 (fun k' => List.lookup k' [(1, (.fix (.agg r.cells))), (4, (.fix (.int .u8 (cl.toNat : Nat)))), (5, (.fix (.string s))), (6, (.own (w.heap.size + 1) 5 1 E.length (byts E)))]) (by as_aux_lemma => kernel_rfl) (by as_aux_lemma => kernel_rfl) (by as_aux_lemma => kernel_rfl) ?_
          simp only [List.take_succ_cons, List.take_zero]
          repeat (refine wpGrow_pure rfl (fun K hK => ?_); go_simp; refine hK.out _ ?_; clear hK K)
          refine wpGrow_eff _ rfl (fun wx he hcl => ?_) (fun _ K hK => ?_) rfl
          · clear hcl
            exact growAt_load_row rfl rfl (HW1.out.below he HW1.out.lt) Try.underlying31 rfl (rrec_size _)
          go_simp
          refine hK.out _ ?_
          clear hK K
          repeat (refine wpGrow_pure rfl (fun K hK => ?_); go_simp; refine hK.out _ ?_; clear hK K)
          refine wpGrow_eff _ rfl (fun wx he hcl => ?_) (fun _ K hK => ?_) rfl
          · clear hcl
            exact growAt_index rfl rfl rfl Try.underlying9 HCJ.out
          go_simp
          refine hK.out _ ?_
          clear hK K
          repeat (refine wpGrow_pure rfl (fun K hK => ?_); go_simp; refine hK.out _ ?_; clear hK K)
          refine wpGrow_eff _ rfl (fun wx he hcl => ?_) (fun _ K hK => ?_) rfl
          · clear hcl
            have hcon := (show Calls Try.prog 27 #[.agg r.cells, .int .u8 (cl.toNat : Nat)] wx (fun en w' => en = .returned (.string s) ∧ Below wx.heap.size wx w') from by have := textOf_any wx r cl.toNat; rwa [HS.out] at this)
            go_simp
            try exact hcon
          go_simp
          refine hK.out _ ?_
          clear hK K
          repeat (refine wpGrow_pure rfl (fun K hK => ?_); go_simp; refine hK.out _ ?_; clear hK K)
          refine wpGrow_eff _ rfl (fun wx he hcl => ?_) (fun ⟨D1, c1⟩ K hK => ?_) rfl
          · clear hcl
            have hsz := Nat.le_trans HBS.out he.size
            have hcon := refText_any wx s HSS.out
            rw [HE.out] at hcon
            go_simp
            exact hcon.mono fun e w3 ⟨D, c, he1, ho, hb⟩ => ⟨D, c, he1, own_base ho hsz, hb⟩
          go_simp
          refine hK.out _ ?_
          clear hK K
          repeat (refine wpGrow_pure rfl (fun K hK => ?_); go_simp; refine hK.out _ ?_; clear hK K)
          refine wpGrow_nil fun wx he hfin => ?_
          have hout : wx.ownsRow (w.heap.size + 1) 5 1 (.slice D1 E.length c1) E.length (byts E) := hfin.out 6
          clear hfin
          have HO1 := Lib.hid hout
          have HE9 := Lib.hid he
          have HW8 := Lib.hid (HW1.out.below he HW1.out.lt)
          have HB9 := Lib.hid (HBB.out.trans (he.mono HBB.out.size))
          clear hout he
          simp only [List.drop_succ_cons, List.drop_zero]
          go_wp2_with (at_builtin; refine wpList_append_rd _ rfl (.tmp 31) (.tmp 37) _ rfl bytesV (w.heap.size + 1) _ L _ rfl (own_ext HOW.out HE9.out) wx.heap.size D1 E.length c1 _ rfl (Rd.of_own HO1.out) (byts_one _) (by have := HEL.out; have := HLL.out; unfold maxLen; omega) (by have := HEL.out; have := HLL.out; omega) (Nat.le_trans HBS.out HE9.out.size) ?_; intro D2 c2 w2' ho2 hb2 _ _)
          have HO2 := Lib.hid ho2
          have HW9 := Lib.hid (HW8.out.below hb2 (show w.heap.size < w.heap.size + 1 by omega))
          have HBX := Lib.hid (HB9.out.trans (hb2.mono (Nat.le_succ _)))
          have HBY := Lib.hid (Nat.le_trans HBS.out (Nat.le_trans HE9.out.size hb2.size))
          clear ho2 hb2
          go_wp2_with fail
          go_roundw
          case rel => exact ⟨j + 1, L + E.length, D2, c2, by omega, by first | rfl | go_num, rfl, HW9, Lib.hid ⟨by rw [HTK.out, Rc.enc_snoc, List.length_append, HLE.out, HES.out], by rw [HTK.out, Rc.enc_snoc, byts_append, HES.out]; exact HO2.out⟩, HBX, HBY⟩
          case measure => simp [intOf] <;> omega
        · rw [decide_eq_false h6] at hct
          have hs0 : r.num cl.toNat = r.at_ (p + 4) := by rw [← HC.out]; exact Rc.lett_num r (by omega)
          have hes : r.encStep (p + 4) = Var.put (r.at_ (p + 4)) := by unfold Rc.encStep; rw [if_pos (by omega)]
          have hel := (Var.put_length (r.at_ (p + 4))).2
          have hv64 := Rc.ok_at HOK.out (p + 4)
          obtain ⟨v, hv⟩ : ∃ v, r.at_ (p + 4) = v := ⟨_, rfl⟩
          rw [hv] at hs0 hes hel hv64
          obtain ⟨E, hE⟩ : ∃ E, Var.put v = E := ⟨_, rfl⟩
          rw [hE] at hes hel
          have HS := Lib.hid hs0
          have HSS := Lib.hid hv64
          have HES := Lib.hid hes
          have HEL := Lib.hid (show E.length ≤ 110 by omega)
          have HE := Lib.hid hE
          clear h6 hs0 hes hel hv hE hv64
          refine hct.mono ?_
          clear hct
          rintro en w4 ⟨rfl, hb4⟩
          replace HBB := Lib.hid (HBB.out.trans (hb4.mono HBB.out.size))
          replace HBS := Lib.hid (Nat.le_trans HBS.out hb4.size)
          replace HW1 := Lib.hid (HW1.out.below hb4 HW1.out.lt)
          replace HOW := Lib.hid (own_ext HOW.out hb4)
          clear hb4
          go_wp2_with fail
          refine wp_region_tail 7 (fun k' => List.lookup k' [(1, (.fix (.agg r.cells))), (4, (.fix (.int .u8 (cl.toNat : Nat)))), (5, (.fix (.int .u64 (v : Nat)))), (6, (.own (w.heap.size + 1) 5 1 E.length (byts E)))]) (by as_aux_lemma => kernel_rfl) (by as_aux_lemma => kernel_rfl) (by as_aux_lemma => kernel_rfl) ?_
          simp only [List.take_succ_cons, List.take_zero]
          repeat (refine wpGrow_pure rfl (fun K hK => ?_); go_simp; refine hK.out _ ?_; clear hK K)
          refine wpGrow_eff _ rfl (fun wx he hcl => ?_) (fun _ K hK => ?_) rfl
          · clear hcl
            exact growAt_load_row rfl rfl (HW1.out.below he HW1.out.lt) Try.underlying31 rfl (rrec_size _)
          go_simp
          refine hK.out _ ?_
          clear hK K
          repeat (refine wpGrow_pure rfl (fun K hK => ?_); go_simp; refine hK.out _ ?_; clear hK K)
          refine wpGrow_eff _ rfl (fun wx he hcl => ?_) (fun _ K hK => ?_) rfl
          · clear hcl
            exact growAt_index rfl rfl rfl Try.underlying9 HCJ.out
          go_simp
          refine hK.out _ ?_
          clear hK K
          repeat (refine wpGrow_pure rfl (fun K hK => ?_); go_simp; refine hK.out _ ?_; clear hK K)
          refine wpGrow_eff _ rfl (fun wx he hcl => ?_) (fun _ K hK => ?_) rfl
          · clear hcl
            have hcon := (show Calls Try.prog 29 #[.agg r.cells, .int .u8 (cl.toNat : Nat)] wx (fun en w' => en = .returned (.int .u64 (v : Nat)) ∧ Below wx.heap.size wx w') from by have := number_any wx r cl.toNat; rwa [HS.out] at this)
            go_simp
            try exact hcon
          go_simp
          refine hK.out _ ?_
          clear hK K
          repeat (refine wpGrow_pure rfl (fun K hK => ?_); go_simp; refine hK.out _ ?_; clear hK K)
          refine wpGrow_eff _ rfl (fun wx he hcl => ?_) (fun ⟨D1, c1⟩ K hK => ?_) rfl
          · clear hcl
            have hsz := Nat.le_trans HBS.out he.size
            have hcon := refPut_any wx v HSS.out
            rw [HE.out] at hcon
            go_simp
            exact hcon.mono fun e w3 ⟨D, c, he1, ho, hb⟩ => ⟨D, c, he1, own_base ho hsz, hb⟩
          go_simp
          refine hK.out _ ?_
          clear hK K
          repeat (refine wpGrow_pure rfl (fun K hK => ?_); go_simp; refine hK.out _ ?_; clear hK K)
          refine wpGrow_nil fun wx he hfin => ?_
          have hout : wx.ownsRow (w.heap.size + 1) 5 1 (.slice D1 E.length c1) E.length (byts E) := hfin.out 6
          clear hfin
          have HO1 := Lib.hid hout
          have HE9 := Lib.hid he
          have HW8 := Lib.hid (HW1.out.below he HW1.out.lt)
          have HB9 := Lib.hid (HBB.out.trans (he.mono HBB.out.size))
          clear hout he
          simp only [List.drop_succ_cons, List.drop_zero]
          go_wp2_with (at_builtin; refine wpList_append_rd _ rfl (.tmp 39) (.tmp 45) _ rfl bytesV (w.heap.size + 1) _ L _ rfl (own_ext HOW.out HE9.out) wx.heap.size D1 E.length c1 _ rfl (Rd.of_own HO1.out) (byts_one _) (by have := HEL.out; have := HLL.out; unfold maxLen; omega) (by have := HEL.out; have := HLL.out; omega) (Nat.le_trans HBS.out HE9.out.size) ?_; intro D2 c2 w2' ho2 hb2 _ _)
          have HO2 := Lib.hid ho2
          have HW9 := Lib.hid (HW8.out.below hb2 (show w.heap.size < w.heap.size + 1 by omega))
          have HBX := Lib.hid (HB9.out.trans (hb2.mono (Nat.le_succ _)))
          have HBY := Lib.hid (Nat.le_trans HBS.out (Nat.le_trans HE9.out.size hb2.size))
          clear ho2 hb2
          go_wp2_with fail
          go_roundw
          case rel => exact ⟨j + 1, L + E.length, D2, c2, by omega, by first | rfl | go_num, rfl, HW9, Lib.hid ⟨by rw [HTK.out, Rc.enc_snoc, List.length_append, HLE.out, HES.out], by rw [HTK.out, Rc.enc_snoc, byts_append, HES.out]; exact HO2.out⟩, HBX, HBY⟩
          case measure => simp [intOf] <;> omega
      · obtain rfl : j = ls.length := by omega
        have hd : decide ((ls.length : Int) < (ls.length : Int)) = false := by simp
        have he : r.enc (Rc.pre r.k ls.length) = r.body := by rw [HLN0.out, Rc.pre_all]; rfl
        rw [he] at HLE HOW
        have p0 : wr.cell? ⟨w.heap.size, 0, none⟩ = some (.int .u8 (r.k : Nat)) := HW1.out.cell 0
        obtain ⟨bl, hbl⟩ : ∃ l, r.body = l := ⟨_, rfl⟩
        rw [hbl] at HLE HOW HBL HPB
        have HU8 := Lib.hid (show (UInt8.ofNat r.k).toNat = r.k by rw [UInt8.toNat_ofNat']; exact Nat.mod_eq_of_lt HOK.out.1)
        have hfp := rput_any wr (UInt8.ofNat r.k) D L c bl wr.heap.size (Nat.le_refl _) (Rd.of_own HOW.out) (by have := HLE.out; have := HBL.out; omega)
        rw [HU8.out, show Fra.putB (UInt8.ofNat r.k) bl = Fra.bytes (UInt8.ofNat r.k) bl by unfold Fra.putB; rw [if_neg (by have := HBL.out; omega)], show Fra.putE bl = 0 by unfold Fra.putE; rw [if_neg (by have := HBL.out; omega)]] at hfp
        have HFP := Lib.hid hfp
        clear hfp he hbl hj hlt
        go_wp2_with fail
        refine HFP.out.mono ?_
        clear HFP
        rintro en w5 ⟨D5, c5, rfl, ho5, hb5⟩
        have HO5 := Lib.hid (own_base (base := w.heap.size) ho5 HBB.out.size)
        have HB5 := Lib.hid (HBB.out.trans (hb5.mono HBB.out.size))
        clear ho5 hb5
        go_wp2_with fail
        go_ret2
        unfold PutP
        rw [HPB.out, HPE.out]
        exact ⟨D5, c5, rfl, HO5.out, HB5.out⟩
end Go.Proofs.Ytmobgamlednlhaa
namespace Go.Proofs.Ytmobgamlednlhaa
open Go.RowKit
attribute [local go_sem] match_undef
namespace Rc
def ex1 : Rc := ⟨3, 1, 2, 3, 300, 0, 0, 0, 0, 0, ⟨#[]⟩, ⟨#[]⟩⟩
def ex2 : Rc := ⟨9, 0, 0, 1, 0, 0, 0, 0, 0, 0, ⟨#[97, 98]⟩, ⟨#[]⟩⟩
def ex1B : List UInt8 := [3, 5, 1, 2, 3, 172, 2, 56, 30, 219, 223]
theorem ex1_right : ex1.right = true := by rfl
theorem ex2_right : ex2.right = true := by rfl
theorem ex1_ok : ex1.ok := by
  unfold ex1 ok maxLen
  and_intros <;> first | exact Nat.zero_le _ | decide
theorem ex2_ok : ex2.ok := by
  unfold ex2 ok maxLen
  and_intros <;> first | exact Nat.zero_le _ | decide
theorem ex1_E : ex1.putE = 0 := by unfold putE; rw [ex1_right]; rfl
theorem ex2_E : ex2.putE = 0 := by unfold putE; rw [ex2_right]; rfl
theorem ex1_len : ex1.putB.length = 11 ∧ ex1.putB.take 7 = [3, 5, 1, 2, 3, 172, 2] := by
  unfold putB; rw [ex1_right, if_pos rfl]
  decide +kernel
theorem ex2_len : ex2.putB.length = 12 ∧ ex2.putB.take 8 = [9, 6, 0, 0, 1, 2, 97, 98] := by
  unfold putB; rw [ex2_right, if_pos rfl]
  decide +kernel
end Rc
set_option maxRecDepth 100000 in
set_option maxHeartbeats 8000000 in
theorem rworks_any (w : World) : Calls Try.prog 9 #[] w fun en w' => en = .returned (.bool true) ∧ Below w.heap.size w w' := by
  have hp1 := put_rec_any w Rc.ex1 Rc.ex1_ok
  have hv1 : Rc.ex1.val = .agg #[.int .u8 3, .int .u64 1, .int .u64 2, .int .u64 3, .int .u64 300, .int .u64 0, .int .u64 0, .int .u64 0, .int .u64 0, .int .u64 0, .string ⟨#[]⟩, .string ⟨#[]⟩] := rfl
  have hv2 : Rc.ex2.val = .agg #[.int .u8 9, .int .u64 0, .int .u64 0, .int .u64 1, .int .u64 0, .int .u64 0, .int .u64 0, .int .u64 0, .int .u64 0, .int .u64 0, .string ⟨#[97, 98]⟩, .string ⟨#[]⟩] := rfl
  have hp2 := fun w => put_rec_any w Rc.ex2 Rc.ex2_ok
  unfold PutP at hp1 hp2
  obtain ⟨l1, hl1⟩ : ∃ l, Rc.ex1.putB = l := ⟨_, rfl⟩
  obtain ⟨l2, hl2⟩ : ∃ l, Rc.ex2.putB = l := ⟨_, rfl⟩
  have e1 := Rc.ex1_len
  have e2 := Rc.ex2_len
  rw [hl1] at e1 hp1
  rw [hl2] at e2 hp2
  rw [hv1, e1.1, Rc.ex1_E] at hp1
  rw [hv2, e2.1, Rc.ex2_E] at hp2
  have HP1 := Lib.hid hp1
  have HP2 := Lib.hid hp2
  have E1 := Lib.hid e1
  have E2 := Lib.hid e2
  clear hp1 hp2 e1 e2 hl1 hl2 hv1 hv2
  go_enter Try.func9, Try.ntmps9
  go_wp2_with fail
  refine HP1.out.mono ?_
  clear HP1
  rintro en w1 ⟨D1, c1, rfl, ho1, hb1⟩
  have HO1 := Lib.hid ho1
  have HB1 := Lib.hid hb1
  have hc1 := own_cap ho1
  have HC1 := Lib.hid hc1
  clear ho1 hb1 hc1
  go_wp2_with fail
  refine (HP2.out w1).mono ?_
  clear HP2
  rintro en w2 ⟨D2, c2, rfl, ho2, hb2⟩
  have HO2 := Lib.hid ho2
  have HO3 := Lib.hid (own_ext HO1.out hb2)
  have HB2 := Lib.hid (HB1.out.trans (hb2.mono HB1.out.size))
  have hc2 := own_cap ho2
  have HC2 := Lib.hid hc2
  have s7 : (7 : Int) ≤ (c1 : Int) := by have := HC1.out.1; omega
  have s8 : (8 : Int) ≤ (c2 : Int) := by have := hc2.1; omega
  clear ho2 hb2 HO1 HB1 hc2
  go_wp2_with fail
  have hr1 := (Rd.of_own HO3.out).front (j := 7) (by omega)
  rw [E1.out.2] at hr1
  refine (same_any _ D1 7 c1 _ (some ⟨w2.heap.size, 0, none⟩) 7 7 [3, 5, 1, 2, 3, 172, 2] w2.heap.size (w2.heap.size + 1) (by simp) (by simp) (hr1.alloc (Nat.le_refl _) _) (Rd.newb w2 _ _ _ 7 rfl rfl) (by omega) (by omega) true (by simp)).mono ?_
  clear hr1
  rintro en w3 ⟨rfl, hb3⟩
  have HO4 := Lib.hid (own_ext (HO2.out.alloc (.cells #[.int .u8 3, .int .u8 5, .int .u8 1, .int .u8 2, .int .u8 3, .int .u8 172, .int .u8 2] 5)) hb3)
  have HB3 := Lib.hid ((HB2.out.alloc HB2.out.size (.cells #[.int .u8 3, .int .u8 5, .int .u8 1, .int .u8 2, .int .u8 3, .int .u8 172, .int .u8 2] 5)).trans (hb3.mono (HB2.out.alloc HB2.out.size (.cells #[.int .u8 3, .int .u8 5, .int .u8 1, .int .u8 2, .int .u8 3, .int .u8 172, .int .u8 2] 5)).size))
  clear hb3 HO2 HO3 HB2
  go_wp2_with fail
  have hr2 := (Rd.of_own HO4.out).front (j := 8) (by omega)
  rw [E2.out.2] at hr2
  refine (same_any _ D2 8 c2 _ (some ⟨w3.heap.size, 0, none⟩) 8 8 [9, 6, 0, 0, 1, 2, 97, 98] w3.heap.size (w3.heap.size + 1) (by simp) (by simp) (hr2.alloc (Nat.le_refl _) _) (Rd.newb w3 _ _ _ 8 rfl rfl) (by omega) (by omega) true (by simp)).mono ?_
  clear hr2
  rintro en w4 ⟨rfl, hb4⟩
  have HB4 := Lib.hid ((HB3.out.alloc HB3.out.size (.cells #[.int .u8 9, .int .u8 6, .int .u8 0, .int .u8 0, .int .u8 1, .int .u8 2, .int .u8 97, .int .u8 98] 5)).trans (hb4.mono (HB3.out.alloc HB3.out.size (.cells #[.int .u8 9, .int .u8 6, .int .u8 0, .int .u8 0, .int .u8 1, .int .u8 2, .int .u8 97, .int .u8 98] 5)).size))
  clear hb4 HB3 HO4
  go_wp2_with fail
  refine (word_any w4 4 (by omega)).mono ?_
  rintro en w5 ⟨rfl, hb5⟩
  have HB5 := Lib.hid (HB4.out.trans (hb5.mono HB4.out.size))
  have hwd : (⟨(Rc.word 4).toArray⟩ : ByteArray) = ⟨#[99, 111, 109, 109, 105, 116]⟩ := rfl
  rw [hwd]
  clear hb5 hwd
  go_wp2_with fail
  go_ret
  exact ⟨rfl, HB5.out⟩
end Go.Proofs.Ytmobgamlednlhaa
