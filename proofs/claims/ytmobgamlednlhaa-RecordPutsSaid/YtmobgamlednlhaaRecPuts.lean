/-
  Records: one is put.
-/
import Derived.Test.YtmobgamlednlhaaRecRight
import Derived.Test.YtmobgamlednlhaaRecLaw
namespace Go.Proofs.Ytmobgamlednlhaa
open Go.RowKit
theorem KMap.base {w : World} {a b g : Nat} {l : List (Nat × List Nat)} (h : KMap w b g l) (hb : a ≤ b) : KMap w a g l :=
  ⟨Nat.le_trans hb h.1, h.2.imp fun _ h => ⟨h.1, h.2.1, fun i hi => (h.2.2 i hi).imp fun _ h => ⟨h.1, h.2.1, h.2.2.imp fun _ h => ⟨h.1, Nat.le_trans hb h.2.1, h.2.2⟩⟩⟩⟩
/-- A call hands back bytes in new memory and a number. -/
def GSpec.put (base : Nat) (bs : List UInt8) (e : Nat) : GSpec :=
  ⟨Option Addr × Nat, (none, 0), fun x => .tuple #[.slice x.1 bs.length x.2, .int .i64 (e : Nat)], fun _ _ x w => w.ownsRow base 5 1 (.slice x.1 bs.length x.2) bs.length (byts bs), fun _ _ _ _ => rfl,
    fun _ _ _ _ _ h k => own_ext h k⟩
attribute [local go_sem] Instr.makeFunc Oper.growAt Oper.growUpon GSpec.fix GSpec.row GSpec.wh GSpec.own GSpec.box GSpec.kmap GSpec.lk1 GSpec.put match_undef
attribute [local irreducible] wpList
namespace Rc
/-- What a record is written as. -/
def body (r : Rc) : List UInt8 := r.enc (places r.k)
def putB (r : Rc) : List UInt8 := if r.right = true then Fra.bytes (UInt8.ofNat r.k) r.body else []
def putE (r : Rc) : Nat := if r.right = true then 0 else 2
theorem body_length {r : Rc} (h : r.right = true) : r.body.length ≤ 770 := by
  have h1 := enc_length r (fun i => Nat.le_trans (right_small h i) (by decide)) (places r.k)
  have h2 := pl_len r.k
  have h3 : (places r.k).length = 3 + (pl r.k).length := by unfold places; rw [List.length_append, List.length_map]; rfl
  unfold body
  omega
end Rc
/-- A record is put: what the call hands back. -/
def PutP (r : Rc) (w : World) (en : Ending) (w' : World) : Prop :=
  ∃ D c, en = .returned (.tuple #[.slice D r.putB.length c, .int .i64 (r.putE : Nat)]) ∧ w'.ownsRow w.heap.size 5 1 (.slice D r.putB.length c) r.putB.length (byts r.putB) ∧ Below w.heap.size w w'
set_option maxRecDepth 100000 in
set_option maxHeartbeats 16000000 in
theorem put_rec_any (w : World) (r : Rc) (hok : r.ok) : Calls Try.prog 12 #[r.val] w (PutP r w) := by
  unfold Rc.val
  have W1 := Lib.hid (Whole.new w 24 r.cells)
  have B1 := Lib.hid (belowK w (.cells r.cells 24))
  have HOK := Lib.hid hok
  have HR1 := Lib.hid (right_any (w.alloc (.cells r.cells 24)) r hok)
  have hval : r.val = .agg r.cells := rfl
  rw [hval] at HR1
  clear hok hval
  cases hr : r.right with
  | false =>
    have HPB := Lib.hid (show r.putB = [] by unfold Rc.putB; rw [hr]; rfl)
    have HPE := Lib.hid (show r.putE = 2 by unfold Rc.putE; rw [hr]; rfl)
    rw [hr] at HR1
    clear hr
    go_enter Try.func12, Try.ntmps12
    go_wp2_with (refine wpList_load_row rfl 24 (.tmp 1) rfl w.heap.size rfl 24 r.cells (0, 0) _ ?_ Try.underlying24 rfl (rec_size r) ?_; · exact W1.out)
    refine HR1.out.mono ?_
    clear HR1
    rintro en w2 ⟨rfl, hb2⟩
    have HB2 := Lib.hid hb2
    clear hb2
    go_wp2_with fail
    go_ret2
    unfold PutP
    rw [HPB.out, HPE.out]
    exact ⟨none, 0, rfl, World.ownsRow_nil _ _ _ _, B1.out.trans (HB2.out.mono B1.out.size)⟩
  | true =>
    have HK := Lib.hid (show 1 ≤ r.k ∧ r.k ≤ 11 by
      unfold Rc.right at hr
      simp only [Bool.and_eq_true, decide_eq_true_eq] at hr
      exact hr.1.1.1.1)
    have HSM := Lib.hid (Rc.right_small hr)
    have HBL0 := Lib.hid (Rc.body_length hr)
    have HPB0 := Lib.hid (show r.putB = Fra.bytes (UInt8.ofNat r.k) r.body by unfold Rc.putB; rw [hr]; rfl)
    have HPE0 := Lib.hid (show r.putE = 0 by unfold Rc.putE; rw [hr]; rfl)
    rw [hr] at HR1
    clear hr
    go_enter Try.func12, Try.ntmps12
    go_wp2_with (refine wpList_load_row rfl 24 (.tmp 1) rfl w.heap.size rfl 24 r.cells (0, 0) _ ?_ Try.underlying24 rfl (rec_size r) ?_; · exact W1.out)
    refine HR1.out.mono ?_
    clear HR1
    rintro en w1 ⟨rfl, hb2⟩
    have g1 := (W1.out.below hb2 W1.out.lt).alloc (.cells #[.slice none 0 0] 58)
    have g2 := Whole.new w1 58 #[.slice none 0 0]
    have g3 := B1.out.trans ((hb2.mono B1.out.size).trans ((Below.refl w.heap.size w1).alloc (Nat.le_trans B1.out.size hb2.size) (.cells #[.slice none 0 0] 58)))
    have G0 := Lib.hid (Nat.le_trans B1.out.size hb2.size)
    have GW1 := Lib.hid (W1.out.below hb2 W1.out.lt).lt
    clear hb2
    go_wp2_with fail
    obtain ⟨g4, hg4⟩ : ∃ g, g = w1.heap.size := ⟨_, rfl⟩
    rw [← hg4] at g2 ⊢
    have HG4 := Lib.hid (show w.heap.size < g4 by rw [hg4]; exact GW1.out)
    clear hg4 G0 GW1
    generalize w1.alloc (.cells #[.slice none 0 0] 58) = wa at g1 g2 g3 ⊢
    have G1 := Lib.hid g1
    have G2 := Lib.hid g2
    have G3 := Lib.hid g3
    have HSZ := Lib.hid g3.size
    have GL := Lib.hid g1.lt
    have Q0 := Lib.hid (show wa.cell? ⟨w.heap.size, 0, none⟩ = some (.int .u8 (r.k : Nat)) from g1.cell 0)
    clear g1 g2 g3
    refine wp_region_tail 6 (fun k' => List.lookup k' [(2, (.kmap wa.heap.size)), (4, (.fix (.int .u8 (r.k : Nat)))), (5, (.lk1 wa.heap.size (Rc.pl r.k)))]) (by as_aux_lemma => kernel_rfl) (by as_aux_lemma => kernel_rfl) (by as_aux_lemma => kernel_rfl) ?_
    simp only [List.take_succ_cons, List.take_zero]
    repeat (refine wpGrow_pure rfl (fun K hK => ?_); go_simp; refine hK.out _ ?_; clear hK K)
    refine wpGrow_eff _ rfl (fun wx he hcl => ?_) (fun gm K hK => ?_) rfl
    · clear hcl
      have hsz := he.size
      have hcon := kinds_any wx
      go_simp
      exact hcon.mono fun e w2 ⟨g, he1, h1, h2⟩ => ⟨g, he1, h1.base hsz, h2⟩
    go_simp
    refine hK.out _ ?_
    clear hK K
    repeat (refine wpGrow_pure rfl (fun K hK => ?_); go_simp; refine hK.out _ ?_; clear hK K)
    refine wpGrow_eff _ rfl (fun wx he hcl => ?_) (fun _ K hK => ?_) rfl
    · clear hcl
      have hq := (he.cell (p := ⟨w.heap.size, 0, none⟩) GL.out).trans Q0.out
      go_simp
      exact Below.refl _ _
    go_simp
    refine hK.out _ ?_
    clear hK K
    repeat (refine wpGrow_pure rfl (fun K hK => ?_); go_simp; refine hK.out _ ?_; clear hK K)
    refine wpGrow_eff _ rfl (fun wx he hcl => ?_) (fun b K hK => ?_) rfl
    · have hkm : KMap wx wa.heap.size gm Rec.kinds := hcl.out 2 (by kernel_rfl)
      obtain ⟨b, h1, h2, _, h3⟩ := kmap_found hkm HK.out.1 HK.out.2
      exact growAt_lookup rfl rfl rfl h3 ⟨b, rfl, h1, h2⟩
    go_simp
    refine hK.out _ ?_
    clear hK K
    repeat (refine wpGrow_pure rfl (fun K hK => ?_); go_simp; refine hK.out _ ?_; clear hK K)
    refine wpGrow_nil fun wx he hfin => ?_
    have hpr : wa.heap.size ≤ b ∧ Whole wx b 94 (smalls (Rc.pl r.k)).toArray := hfin.out 5
    clear hfin
    have BL := Lib.hid hpr.2.lt
    have HV := Lib.hid (visit_writer wx w.heap.size g4 24 58 r HOK.out (fun i => Nat.le_trans (HSM.out i) (by decide)) (G1.out.below he G1.out.lt) (G2.out.below he G2.out.lt) (by have := HG4.out; omega) (some ⟨b, 0, none⟩) (Rc.pl r.k).length (Rc.pl r.k).length (Rc.pl r.k) (Rc.pl_lt _) (parts_rd hpr.2 hpr.2.lt) (fun _ bb o h => by
      cases h
      have h1 := hpr.1
      have h2 := G2.out.lt
      have h3 := GL.out
      constructor <;> omega) (by have := Rc.pl_len r.k; omega))
    have HE := Lib.hid he
    clear hpr he
    simp only [List.drop_succ_cons, List.drop_zero]
    go_wp2_with fail
    refine HV.out.mono ?_
    clear HV
    rintro en w2 ⟨rfl, v1, ⟨Ab, cb, v2, v3⟩, v4⟩
    obtain ⟨bl, hbl⟩ : ∃ l, r.body = l := ⟨_, rfl⟩
    have hbl2 : r.enc ([1, 2, 3] ++ (Rc.pl r.k).map (· + 4)) = bl := hbl
    rw [hbl2] at v2 v3
    have HPB := Lib.hid (show r.putB = Fra.bytes (UInt8.ofNat r.k) bl by rw [← hbl]; exact HPB0.out)
    have HBL := Lib.hid (show bl.length ≤ 770 by rw [← hbl]; exact HBL0.out)
    clear hbl hbl2 HPB0 HBL0
    have QA := Lib.hid (show w2.cell? ⟨w.heap.size, 0, none⟩ = some (.int .u8 (r.k : Nat)) from v1.cell 0)
    have GLA := Lib.hid v1.lt
    have QB := Lib.hid (show w2.cell? ⟨g4, 0, none⟩ = some (.slice Ab bl.length cb) from v2.cell 0)
    have GLB := Lib.hid v2.lt
    have HOW := Lib.hid v3
    have HSB := Lib.hid (show w.heap.size ≤ w2.heap.size from Nat.le_of_lt v1.lt)
    have HF1 := Lib.hid (show Fra.putB (UInt8.ofNat r.k) bl = Fra.bytes (UInt8.ofNat r.k) bl by unfold Fra.putB; rw [if_neg (by have := HBL.out; omega)])
    have HF2 := Lib.hid (show Fra.putE bl = 0 by unfold Fra.putE; rw [if_neg (by have := HBL.out; omega)])
    have HU8 := Lib.hid (show (UInt8.ofNat r.k).toNat = r.k by rw [UInt8.toNat_ofNat']; exact Nat.mod_eq_of_lt HOK.out.1)
    have HB5 := Lib.hid (G3.out.trans ((HE.out.mono HSZ.out).trans (v4.below (H := w.heap.size) (Nat.le_trans HSZ.out HE.out.size) (Nat.le_refl _) (Nat.le_of_lt HG4.out))))
    clear v1 v2 v3 v4
    go_wp2_with fail
    refine wp_region_grow (fun k' => List.lookup k' [(1, (.fix (.int .u8 (r.k : Nat)))), (5, (.fix (.slice Ab bl.length cb))), (7, (.put w.heap.size (Fra.bytes (UInt8.ofNat r.k) bl) 0))]) (by as_aux_lemma => kernel_rfl) (by as_aux_lemma => kernel_rfl) ?_
    repeat (refine wpGrow_pure rfl (fun K hK => ?_); go_simp; refine hK.out _ ?_; clear hK K)
    refine wpGrow_eff _ rfl (fun wx he hcl => ?_) (fun _ K hK => ?_) rfl
    · clear hcl
      have hq := (he.cell (p := ⟨w.heap.size, 0, none⟩) GLA.out).trans QA.out
      go_simp
      exact Below.refl _ _
    go_simp
    refine hK.out _ ?_
    clear hK K
    repeat (refine wpGrow_pure rfl (fun K hK => ?_); go_simp; refine hK.out _ ?_; clear hK K)
    refine wpGrow_eff _ rfl (fun wx he hcl => ?_) (fun _ K hK => ?_) rfl
    · clear hcl
      have hq := (he.cell (p := ⟨g4, 0, none⟩) GLB.out).trans QB.out
      go_simp
      exact Below.refl _ _
    go_simp
    refine hK.out _ ?_
    clear hK K
    repeat (refine wpGrow_pure rfl (fun K hK => ?_); go_simp; refine hK.out _ ?_; clear hK K)
    refine wpGrow_eff _ rfl (fun wx he hcl => ?_) (fun ⟨D, c⟩ K hK => ?_) rfl
    · clear hcl
      have hsz := Nat.le_trans HSB.out he.size
      have hcon := fput_any wx (UInt8.ofNat r.k) Ab bl.length cb bl w2.heap.size he.size ((Rd.of_own HOW.out).below he) (by have := HBL.out; omega)
      rw [HU8.out, HF1.out, HF2.out] at hcon
      go_simp
      exact hcon.mono fun e w3 ⟨D, c, he1, ho, hb⟩ => ⟨D, c, he1, own_base ho hsz, hb⟩
    go_simp
    refine hK.out _ ?_
    clear hK K
    repeat (refine wpGrow_pure rfl (fun K hK => ?_); go_simp; refine hK.out _ ?_; clear hK K)
    refine wpGrow_nil fun wy he hfin => ?_
    have hout : wy.ownsRow w.heap.size 5 1 (.slice D (Fra.bytes (UInt8.ofNat r.k) bl).length c) (Fra.bytes (UInt8.ofNat r.k) bl).length (byts (Fra.bytes (UInt8.ofNat r.k) bl)) := hfin.out 7
    clear hfin
    have HO6 := Lib.hid hout
    have HB6 := Lib.hid (HB5.out.trans (he.mono HSB.out))
    clear hout he
    go_wp2_with fail
    go_ret2
    unfold PutP
    rw [HPB.out, HPE0.out]
    exact ⟨D, c, rfl, HO6.out, HB6.out⟩
end Go.Proofs.Ytmobgamlednlhaa
