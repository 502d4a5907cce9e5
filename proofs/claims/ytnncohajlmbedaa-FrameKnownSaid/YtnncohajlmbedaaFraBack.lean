/-
  The walk of FrameBack: it returns true.
-/
import Derived.Test.YtnncohajlmbedaaFraBackLaw
import Derived.Test.YtnncohajlmbedaaFraRefsLaw
import Derived.Test.YtnncohajlmbedaaFraBitsLaw
import Derived.Test.YtnncohajlmbedaaFraBits
namespace Go.Proofs.Ytnncohajlmbedaa
open Go.RowKit
theorem RdFr.one {w : World} {B N b o : Nat} {fs : List Fr} {f : Fr} (h : RdFr w B (some ⟨b, o, none⟩) N fs) {j : Nat} (hj : j < fs.length) (hf : fs[j] = f) : RdFr w B (some ⟨b, o + j * 2, none⟩) 1 [f] := by
  refine ⟨rfl, fun i hi => ?_⟩
  obtain rfl : i = 0 := by simp at hi; omega
  obtain ⟨b', o', A', c, e, hb, h1, h2, h3, h4, hr⟩ := h.2 j hj
  injection e with e
  injection e with e1 e2
  subst e1 e2
  subst hf
  exact ⟨b, o + j * 2, A', c, rfl, hb, by rw [show o + j * 2 + 0 * 2 = o + j * 2 by omega]; exact h1, by rw [show o + j * 2 + 0 * 2 + 1 = o + j * 2 + 1 by omega]; exact h2, h3, h4, hr⟩
theorem RdFr.upto {w : World} {B N : Nat} {A : Option Addr} {fs : List Fr} (h : RdFr w B A N fs) {j : Nat} (hj : j ≤ N) : RdFr w B A j (fs.take j) := by
  refine ⟨by rw [List.length_take, h.1]; omega, fun i hi => ?_⟩
  have hi2 : i < fs.length := by rw [List.length_take] at hi; omega
  obtain ⟨b', o', A', c, e, hb, h1, h2, h3, h4, hr⟩ := h.2 i hi2
  have e1 : (fs.take j)[i] = fs[i] := List.getElem_take
  rw [e1]
  exact ⟨b', o', A', c, e, hb, h1, h2, h3, h4, hr⟩
theorem own_older {w0 w w' : World} {base s n B : Nat} {te : TypeId} {v : Value} {xs : List Value} (h0 : w0.ownsRow base te s v n xs) (h : w.ownsRow base te s v n xs) (hb : Below B w w') (hz : w0.heap.size ≤ B) : w'.ownsRow base te s v n xs := by
  refine ⟨h.1, h.2.imp id ?_⟩
  rintro ⟨g, cap, cur, rfl, hg, hh, hr⟩
  have hlt : g < w0.heap.size := by
    rcases h0.2 with ⟨e, _⟩ | ⟨g', cap', cur', e, _, hh', _⟩
    · cases e
    · injection e with e
      injection e with e
      injection e with e
      subst e
      exact Whole.lt (show Whole w0 g te cur' from hh')
  exact ⟨g, cap, cur, rfl, hg, (hb.block g (by omega)).trans hh, hr⟩
/-- A row of one frame in new memory: its address and its cells. -/
def GSpec.frow (base : Nat) (te : TypeId) (k : UInt8) (m : Nat) (bd : List UInt8) : GSpec :=
  ⟨(Nat × Nat) × (Option Addr × Nat), ((0, 0), (none, 0)), fun x => .slice (some ⟨x.1.1, 0, none⟩) 1 x.1.2,
    fun _ _ x w => x.1.1 < w.heap.size ∧ w.cell? ⟨x.1.1, 0, none⟩ = some (.int .u8 (k.toNat : Nat)) ∧ w.cell? ⟨x.1.1, 1, none⟩ = some (.slice x.2.1 m x.2.2) ∧ w.ownsRow base te 1 (.slice x.2.1 m x.2.2) m (byts bd), fun _ _ _ _ => rfl,
    fun _ _ x _ _ h q => ⟨Nat.lt_of_lt_of_le h.1 q.size, (q.cell (p := ⟨x.1.1, 0, none⟩) h.1).trans h.2.1, (q.cell (p := ⟨x.1.1, 1, none⟩) h.1).trans h.2.2.1, own_ext h.2.2.2 q⟩⟩
/-- A frame that was loaded. -/
def GSpec.fld (base : Nat) (te : TypeId) (k : UInt8) (m : Nat) (bd : List UInt8) : GSpec :=
  ⟨Option Addr × Nat, (none, 0), fun x => .agg #[.int .u8 (k.toNat : Nat), .slice x.1 m x.2], fun _ _ x w => w.ownsRow base te 1 (.slice x.1 m x.2) m (byts bd), fun _ _ _ _ => rfl, fun _ _ _ _ _ h q => own_ext h q⟩
attribute [local go_sem] match_undef Oper.growAt Oper.growUpon GSpec.fix GSpec.row GSpec.wh GSpec.own GSpec.frow GSpec.fld
attribute [local irreducible] wpList

set_option maxRecDepth 100000 in
set_option maxHeartbeats 20000000 in
theorem frameBack_any (w : World) (A : Option Addr) (N cap : Nat) (fs : List Fr) (h : RdFr w w.heap.size A N fs) (hc : N ≤ cap) (hcm : cap ≤ maxLen) (A2 : Option Addr) (m cap2 : Nat) (xs : List UInt8) (h2 : Rd w w.heap.size 1 A2 m (byts xs)) (z : Int) :
    Calls Try.prog 6 #[.slice A N cap, .slice A2 m cap2, .int .i64 z] w fun en w' => en = .returned (.bool true) ∧ Below w.heap.size w w' := by
  have HL := Lib.hid h.1
  have HL2 := Lib.hid h2.blen
  have H := Lib.hid h
  have H2 := Lib.hid h2
  have hb : Below w.heap.size w w := Below.refl _ _
  clear h h2
  obtain ⟨r, hr⟩ : ∃ r, decide ((∀ a (ha : a < fs.length), a < 11 → fs[a].2.length ≤ 400) ∧ N ≤ 10) = r := ⟨_, rfl⟩
  have HR := Lib.hid hr
  clear hr
  by_cases hbad : r = false ∨ 100 < m
  · go_enter Try.func6, Try.ntmps6
    go_wp2_with fail
    refine (few_any w A N cap fs w.heap.size (Nat.le_refl _) H.out (by unfold maxLen at hcm; omega) r HR.out).mono ?_
    rintro en w1 ⟨rfl, rfl⟩
    cases r
    · go_wp2_with fail
      refine (fworks_any _).mono ?_
      rintro en wz ⟨rfl, hbz⟩
      replace hb := hb.trans (hbz.mono hb.size)
      go_wp2_with fail
      go_ret
      exact ⟨rfl, hb⟩
    · have hd : decide ((100 : Int) < (m : Int)) = true := by simp; simp at hbad; omega
      go_wp2_with fail
      refine (fworks_any _).mono ?_
      rintro en wz ⟨rfl, hbz⟩
      replace hb := hb.trans (hbz.mono hb.size)
      go_wp2_with fail
      go_ret
      exact ⟨rfl, hb⟩
  · obtain rfl : r = true := by cases r <;> simp_all
    have hm100 : m ≤ 100 := by omega
    have hfew := of_decide_eq_true HR.out
    have hN10 : N ≤ 10 := hfew.2
    have HF4 := Lib.hid (show ∀ a (ha : a < fs.length), fs[a].2.length ≤ 400 from fun a ha => hfew.1 a ha (by have := HL.out; omega))
    have HFM := Lib.hid (show ∀ f ∈ fs, f.2.length ≤ 140737488351232 from fun f hf => by obtain ⟨a, ha, rfl⟩ := List.getElem_of_mem hf; have := HF4.out a ha; omega)
    have hd : decide ((100 : Int) < (m : Int)) = false := by simp; omega
    clear hbad hfew
    go_enter Try.func6, Try.ntmps6
    go_wp2_with fail
    refine (few_any w A N cap fs w.heap.size (Nat.le_refl _) H.out (by omega) true HR.out).mono ?_
    rintro en w1 ⟨rfl, rfl⟩
    obtain ⟨W, hW⟩ : ∃ W, Fra.cat fs = W := ⟨_, rfl⟩
    obtain ⟨L, hL⟩ : ∃ L, W.length = L := ⟨_, rfl⟩
    have hov : Fra.over fs = false := Fra.over_not fun j hj => by have := HF4.out j hj; omega
    have hjn := fjoin_any w A N cap fs w.heap.size (Nat.le_refl _) H.out (by omega) HFM.out
    unfold BytP Fra.joinB Fra.joinE at hjn
    rw [if_neg (by rw [hov]; simp), if_neg (by rw [hov]; simp), hW, hL] at hjn
    have HJN := Lib.hid hjn
    have HW := Lib.hid hW
    have HWL := Lib.hid hL
    have hcl : ∀ j, j ≤ fs.length → (Fra.cat (fs.take j)).length ≤ j * 415 := by
      intro j
      induction j with
      | zero => intro _; simp [Fra.cat]
      | succ j ih =>
        intro hj
        have h1 := ih (by omega)
        have h2 := HF4.out j (by omega)
        have h3 := Fra.bytes_length fs[j].1 fs[j].2
        have h4 := (Fra.head_le fs[j].1 fs[j].2).2
        rw [Fra.cat_snoc (by omega), List.length_append]
        omega
    have HLB := Lib.hid (show L ≤ 4150 from by have h1 := hcl fs.length (Nat.le_refl _); rw [List.take_of_length_le (Nat.le_refl _), hW, hL] at h1; have := HL.out; omega)
    clear hjn hW hL hov hcl
    go_wp2_with fail
    refine HJN.out.mono ?_
    clear HJN
    rintro en w2 ⟨D7, c7, rfl, ho7, hbn⟩
    have HO7 := Lib.hid ho7
    have HO7a := Lib.hid ho7
    replace hb := hb.trans (hbn.mono hb.size)
    clear ho7 hbn
    go_wp2_with fail
    have hown := own_any w2 A2 m cap2 xs w.heap.size (H2.out.below hb) (by omega)
    rw [HL2.out] at hown
    refine hown.mono ?_
    clear hown
    rintro en w3 ⟨D10, c10, rfl, ho10, hbn⟩
    have HO10 := Lib.hid (own_base ho10 hb.size)
    replace HO7 := Lib.hid (own_ext HO7.out hbn)
    have HR7 := Lib.hid (Rd.of_own HO7.out)
    have HZ2 := Lib.hid hbn.size
    have HO10b := Lib.hid ho10
    have HZ0 := Lib.hid (Nat.le_refl w2.heap.size)
    have HZ1 := Lib.hid hb.size
    replace hb := hb.trans (hbn.mono hb.size)
    have hz3 := hb.size
    have hLB := HLB.out
    clear ho10 hbn
    go_wp2_with (at_builtin; refine wpList_append_rd _ rfl (.tmp 40) (.tmp 41) _ rfl bytesV w2.heap.size _ m _ rfl HO10b.out w3.heap.size D7 L c7 _ rfl HR7.out (byts_one _) (by unfold maxLen; omega) (by have := HLB.out; omega) HZ2.out ?_; intro D11 c11 w4 ho11 hb4 hg4 _)
    rw [← byts_append] at ho11
    have HC11 := Lib.hid (own_cap ho11)
    have HO11 := Lib.hid ho11
    have hb3 := hb
    replace HO7 := Lib.hid (own_older HO7a.out HO7.out hb4 (Nat.le_refl _))
    have HB4 := Lib.hid (hb.trans (hb4.mono HZ1.out))
    clear ho11 hb4 hg4 hb hb3 hz3 HO10 HO10b HR7 HZ0 HZ1 HZ2 HO7a
    go_loopw [9, 11] (fun a i wr => ∃ j p : Nat, j ≤ N ∧ a = .int .i64 p ∧ i = .int .i64 j ∧ p ≤ m + L ∧ Hid (m + (Fra.cat (fs.take j)).length = p) ∧ Below w4.heap.size w4 wr) (fun _ i _ => N - (intOf i).toNat)
    case atStart => exact ⟨0, m, by omega, rfl, rfl, by omega, Lib.hid (by simp [Fra.cat]), Below.refl _ _⟩
    case round =>
      obtain ⟨j, p, hj, rfl, rfl, hp, HP, hx⟩ := hrel
      by_cases hlt : j < N
      · have hjl : j < fs.length := by have := HL.out; omega
        have hbr := HB4.out.trans (hx.mono HB4.out.size)
        obtain ⟨b1, o1, A1, c1, rfl, hb1, hp1, hq1, hm1, hm2, hr1⟩ := (H.out.below hbr).2 j hjl
        have hle := HF4.out j hjl
        obtain ⟨f, hfj⟩ : ∃ f, fs[j] = f := ⟨_, rfl⟩
        have HONE := Lib.hid ((H.out.below hbr).one hjl hfj)
        rw [hfj] at hp1 hq1 hr1 hm1 hle
        have HFJ := Lib.hid hfj
        obtain ⟨k, bd⟩ := f
        simp only at hp1 hq1 hr1 hm1 hle
        obtain ⟨m1, em⟩ : ∃ m, bd.length = m := ⟨_, rfl⟩
        rw [em] at hq1 hr1 hm1 hle
        have HM := Lib.hid em
        obtain ⟨y, hy⟩ : ∃ y, (Fra.bytes k bd).length = y := ⟨_, rfl⟩
        have HY := Lib.hid hy
        have hyl : y ≤ 500 := by
          have h1 := Fra.bytes_length k bd
          have h2 := (Fra.head_le k bd).2
          omega
        have HSN := Lib.hid (show Fra.cat (fs.take (j + 1)) = Fra.cat (fs.take j) ++ Fra.bytes k bd from by rw [Fra.cat_snoc hjl, hfj])
        have hcm1 := Fra.cat_mono fs (show j + 1 ≤ fs.length by omega)
        have hpl : p + y ≤ m + L := by
          rw [HSN.out, List.length_append, hy, List.take_of_length_le (Nat.le_refl _)] at hcm1
          have h1 := HP.out
          have h2 := HW.out
          have h3 := HWL.out
          rw [h2, h3] at hcm1
          omega
        have htk : Fra.take (xs ++ W) ((p : Nat) : Int) = (k, bd, ((p + y : Nat) : Int), 0) := by
          have h1 := Fra.take_bytes (xs ++ Fra.cat (fs.take j)) (Fra.cat (fs.drop (j + 1))) k bd (by omega)
          have h2 := Fra.cat_split fs hjl
          rw [hfj, HW.out] at h2
          rw [List.append_assoc, ← h2, List.length_append, HL2.out, HP.out, hy] at h1
          exact h1
        obtain ⟨q, hq⟩ : ∃ q, p + y = q := ⟨_, rfl⟩
        rw [hq] at htk hpl
        have HTK := Lib.hid htk
        have HQ := Lib.hid hq
        have e1 : IntKind.i64.wrap ((p : Int) + (y : Int)) = (q : Int) := by rw [IntKind.wrap_i64]; omega
        have E1 := Lib.hid e1
        have ej : IntKind.i64.wrap ((j : Int) + 1) = (j : Int) + 1 := by rw [IntKind.wrap_i64]; omega
        have EJ := Lib.hid ej
        have HB1 := Lib.hid (Nat.le_refl wr.heap.size)
        have d : decide ((j : Int) < (N : Int)) = true := by simp; omega
        have d1 : (0 : Int) ≤ (j : Int) := by omega
        have d2 : (j : Int) < (N : Int) := by omega
        have HR1 := Lib.hid hr1
        have P1 := Lib.hid hp1
        have Q1 := Lib.hid hq1
        have HBR := Lib.hid hbr
        have HB1L := Lib.hid hb1
        clear em hfj hr1 hp1 hq1 hb1 hy htk hq e1 ej hcm1 hbr HB1
        go_wp2_with fail
        have hcon := ftake_any wr D11 (m + L) c11 (xs ++ W) wr.heap.size (Nat.le_refl _) (Rd.of_own (own_ext HO11.out hx)) HC11.out.1 HC11.out.2 (by omega) (p : Nat) (by omega) (by omega)
        rw [HTK.out] at hcon
        unfold FrP at hcon
        simp only [HM.out] at hcon
        refine hcon.mono ?_
        clear hcon
        rintro en w5 ⟨D12, c12, rfl, ho12, hbn⟩
        have HO12a := Lib.hid (own_base ho12 (Nat.le_trans HB4.out.size hx.size))
        have HX5 := Lib.hid (hx.trans (hbn.mono hx.size))
        have HBR5 := Lib.hid (HBR.out.trans (hbn.mono HBR.out.size))
        replace HONE := Lib.hid (HONE.out.below (hbn.mono HBR.out.size))
        replace HR1 := Lib.hid (HR1.out.below (hbn.mono HBR.out.size))
        replace P1 := Lib.hid ((hbn.cell (p := ⟨b1, o1 + j * 2, none⟩) (Nat.lt_of_lt_of_le HB1L.out HBR.out.size)).trans P1.out)
        replace Q1 := Lib.hid ((hbn.cell (p := ⟨b1, o1 + j * 2 + 1, none⟩) (Nat.lt_of_lt_of_le HB1L.out HBR.out.size)).trans Q1.out)
        clear ho12 hbn hx
        go_wp2_with fail
        have hbn := below1 w5 (.cells #[.int .u8 (k.toNat : Nat), .slice D12 m1 c12] 26)
        have kn := Whole.new w5 26 #[.int .u8 (k.toNat : Nat), .slice D12 m1 c12]
        have HO12 := Lib.hid (own_ext HO12a.out hbn)
        have HX6 := Lib.hid (HX5.out.trans (hbn.mono HX5.out.size))
        have HB2 := Lib.hid (Nat.le_trans HBR5.out.size hbn.size)
        have LB := Lib.hid (Nat.lt_of_lt_of_le HB1L.out HB2.out)
        replace HONE := Lib.hid (HONE.out.below (hbn.mono HBR5.out.size))
        replace HR1 := Lib.hid (HR1.out.below (hbn.mono HBR5.out.size))
        replace P1 := Lib.hid ((hbn.cell (p := ⟨b1, o1 + j * 2, none⟩) (Nat.lt_of_lt_of_le HB1L.out HBR5.out.size)).trans P1.out)
        replace Q1 := Lib.hid ((hbn.cell (p := ⟨b1, o1 + j * 2 + 1, none⟩) (Nat.lt_of_lt_of_le HB1L.out HBR5.out.size)).trans Q1.out)
        obtain ⟨g12, hgg⟩ : ∃ g, w5.heap.size = g := ⟨_, rfl⟩
        rw [hgg] at kn ⊢
        have KG := Lib.hid kn
        clear kn hgg hbn HO12a HX5 HBR5 HBR
        generalize World.alloc w5 (.cells #[.int .u8 (k.toNat : Nat), .slice D12 m1 c12] 26) = w6 at *
        have e1 := E1.out
        have ej := EJ.out
        have dn : ¬ cap = j := by omega
        have dc : (0 : Int) ≤ (j : Int) + 1 := by omega
        have dc2 : (j : Int) + 1 ≤ (cap : Int) := by omega
        refine wp_region_grow (fun k' => List.lookup k' [(8, .fix (.agg #[.int .u8 (k.toNat : Nat), .slice A1 m1 c1])), (9, .fix (.int .i64 (y : Nat))), (14, .fix (.agg #[.int .u8 (k.toNat : Nat), .slice D12 m1 c12])), (20, .frow w.heap.size 5 k m1 bd), (22, .fld w.heap.size 5 k m1 bd), (23, .fix (.bool true))]) (by as_aux_lemma => kernel_rfl) (by as_aux_lemma => kernel_rfl) ?_
        repeat (refine wpGrow_pure rfl (fun K hK => ?_); go_simp; refine hK.out _ ?_; clear hK K)
        refine wpGrow_eff _ rfl (fun wx he hcl => ?_) (fun _ K hK => ?_) rfl
        · clear hcl
          have hq0 := (he.cell (p := ⟨b1, o1 + j * 2, none⟩) LB.out).trans P1.out
          have hq1 := (he.cell (p := ⟨b1, o1 + j * 2 + 1, none⟩) LB.out).trans Q1.out
          go_simp
          exact Below.refl _ _
        go_simp
        refine hK.out _ ?_
        clear hK K
        repeat (refine wpGrow_pure rfl (fun K hK => ?_); go_simp; refine hK.out _ ?_; clear hK K)
        refine wpGrow_eff _ rfl (fun wx he hcl => ?_) (fun _ K hK => ?_) rfl
        · clear hcl
          have hcon := fsize_any wx k A1 m1 c1 bd w.heap.size (Nat.le_trans HB2.out he.size) (HR1.out.below (he.mono HB2.out)) (by omega)
          rw [HY.out] at hcon
          go_simp
          all_goals exact hcon
        go_simp
        refine hK.out _ ?_
        clear hK K
        repeat (refine wpGrow_pure rfl (fun K hK => ?_); go_simp; refine hK.out _ ?_; clear hK K)
        refine wpGrow_eff _ rfl (fun wx he hcl => ?_) (fun _ K hK => ?_) rfl
        · clear hcl
          have kk := KG.out.below he KG.out.lt
          have hq0 := kk.cell 0
          have hq1 := kk.cell 1
          simp at hq0 hq1
          go_simp
          exact Below.refl _ _
        go_simp
        refine hK.out _ ?_
        clear hK K
        repeat (refine wpGrow_pure rfl (fun K hK => ?_); go_simp; refine hK.out _ ?_; clear hK K)
        refine wpGrow_eff _ rfl (fun wx he hcl => ?_) (fun ⟨⟨g20, c20⟩, ⟨A20, c20'⟩⟩ K hK => ?_) rfl
        · clear hcl
          have hcon := refs_any wx (some ⟨b1, o1 + j * 2, none⟩) 1 (cap - j) [(k, bd)] w.heap.size (Nat.le_trans HB2.out he.size) (HONE.out.below (he.mono HB2.out)) (by omega) (by intro f hf; simp at hf; subst hf; have := HM.out; simp only; omega)
          have hszx := Nat.le_trans HB2.out he.size
          have hm := HM.out
          go_simp
          refine hcon.mono ?_
          rintro en wv ⟨D, c, vs, rfl, ho, hof, hbv⟩
          obtain ⟨g, cur, rfl, hg1, hg2, hg3⟩ := own_whole ho (by omega)
          obtain ⟨A', c', hv0, hv1, hv2⟩ := hof.2 0 (by simp)
          simp only [List.getElem_cons_zero, hm] at hv0 hv1 hv2
          have hlt := (own_lt ho g rfl).2
          refine ⟨g, ⟨c, rfl⟩, ⟨hlt, ?_, A', c', ?_, own_base hv2 hszx⟩, hbv⟩
          · have := (Rd.of_own ho).2 (by omega)
            obtain ⟨b', o', e, _, hc⟩ := this
            injection e with e
            injection e with e1 e2
            subst e1 e2
            exact hc 0 _ hv0
          · have := (Rd.of_own ho).2 (by omega)
            obtain ⟨b', o', e, _, hc⟩ := this
            injection e with e
            injection e with e1 e2
            subst e1 e2
            exact hc 1 _ hv1
        go_simp
        refine hK.out _ ?_
        clear hK K
        repeat (refine wpGrow_pure rfl (fun K hK => ?_); go_simp; refine hK.out _ ?_; clear hK K)
        refine wpGrow_eff _ rfl (fun wx he hcl => ?_) (fun ⟨A22, c22⟩ K hK => ?_) rfl
        · have hx := hcl.out 20 rfl
          clear hcl
          obtain ⟨hx0, hx1, hx2, hx3⟩ : g20 < wx.heap.size ∧ wx.cell? ⟨g20, 0, none⟩ = some (.int .u8 (k.toNat : Nat)) ∧ wx.cell? ⟨g20, 1, none⟩ = some (.slice A20 m1 c20') ∧ wx.ownsRow w.heap.size 5 1 (.slice A20 m1 c20') m1 (byts bd) := hx
          have HX3 := Lib.hid hx3
          clear hx3
          go_simp
          first | exact ⟨A20, c20', ⟨rfl, rfl⟩, HX3.out, Below.refl _ _⟩ | exact ⟨HX3.out, Below.refl _ _⟩
        go_simp
        refine hK.out _ ?_
        clear hK K
        repeat (refine wpGrow_pure rfl (fun K hK => ?_); go_simp; refine hK.out _ ?_; clear hK K)
        refine wpGrow_eff _ rfl (fun wx he hcl => ?_) (fun _ K hK => ?_) rfl
        · have hx : wx.ownsRow w.heap.size 5 1 (.slice A22 m1 c22) m1 (byts bd) := hcl.out 22 rfl
          clear hcl
          have hcon := lsame_any wx k D12 m1 c12 bd k A22 m1 c22 bd wx.heap.size wx.heap.size (Nat.le_refl _) (Nat.le_refl _) (Rd.of_own (own_ext HO12.out he)) (Rd.of_own hx) (by omega) (by omega) true (by simp)
          clear hx
          go_simp
          all_goals exact hcon
        go_simp
        refine hK.out _ ?_
        clear hK K
        repeat (refine wpGrow_pure rfl (fun K hK => ?_); go_simp; refine hK.out _ ?_; clear hK K)
        refine wpGrow_nil fun wx he hfin => ?_
        clear hfin
        have hx := HX6.out.trans (he.mono HX6.out.size)
        clear e1 ej he dn dc dc2
        go_wp2_with fail
        go_roundw
        case rel => exact ⟨j + 1, q, by omega, rfl, by go_num, by omega, Lib.hid (by rw [HSN.out, List.length_append, HY.out]; have := HP.out; have := HQ.out; omega), hx⟩
        case measure => simp [intOf] <;> omega
      · obtain rfl : N = j := by omega
        have d : decide ((N : Int) < (N : Int)) = false := by simp
        have hx4 := hx
        obtain ⟨n, hn, hnL⟩ : ∃ n : Nat, z % ((L : Int) + 1) = n ∧ n ≤ L := ⟨(z % ((L : Int) + 1)).toNat, by have := Int.emod_nonneg z (show ((L : Int) + 1) ≠ 0 by omega); omega, by have := Int.emod_lt_of_pos z (show 0 < ((L : Int) + 1) by omega); have := Int.emod_nonneg z (show ((L : Int) + 1) ≠ 0 by omega); omega⟩
        have hpk := pick_any wr z (L + 1) (by omega) (by omega)
        rw [show ((L + 1 : Nat) : Int) = (L : Int) + 1 from rfl, hn] at hpk
        have HPK := Lib.hid hpk
        clear hpk hn hx4
        go_wp2_with fail
        refine HPK.out.mono ?_
        clear HPK
        rintro en w7 ⟨rfl, hbn⟩
        have HB7 := Lib.hid (HB4.out.trans ((hx.trans (hbn.mono hx.size)).mono HB4.out.size))
        replace HO7 := Lib.hid (own_ext HO7.out (hx.trans (hbn.mono hx.size)))
        have HC7 := Lib.hid (own_cap HO7.out)
        clear hbn hx HB4 HO11 HC11 HP d
        go_wp2_with fail
        go_loopw [16, 17] (fun a g wr => ∃ j g2 : Nat, j ≤ N ∧ a = .int .i64 j ∧ g = .int .i64 g2 ∧ g2 ≤ n ∧ Hid ((Fra.cat (fs.take j)).length = g2) ∧ Below w7.heap.size w7 wr) (fun a _ _ => N - (intOf a).toNat)
        case atStart => exact ⟨0, 0, by omega, rfl, rfl, by omega, Lib.hid (by simp [Fra.cat]), Below.refl _ _⟩
        case round =>
          obtain ⟨j, g2, hj, rfl, rfl, hg2, HG2, hx⟩ := hrel
          have HBR := Lib.hid (HB7.out.trans (hx.mono HB7.out.size))
          by_cases hlt : j < N
          · have hjl : j < fs.length := by have := HL.out; omega
            obtain ⟨b1, o1, A1, c1, rfl, hb1, hp1, hq1, hm1, hm2, hr1⟩ := (H.out.below HBR.out).2 j hjl
            have hle := HF4.out j hjl
            obtain ⟨f, hfj⟩ : ∃ f, fs[j] = f := ⟨_, rfl⟩
            rw [hfj] at hp1 hq1 hr1 hm1 hle
            have HFJ := Lib.hid hfj
            obtain ⟨k, bd⟩ := f
            simp only at hp1 hq1 hr1 hm1 hle
            obtain ⟨m1, em⟩ : ∃ m, bd.length = m := ⟨_, rfl⟩
            rw [em] at hq1 hr1 hm1 hle
            obtain ⟨y, hy⟩ : ∃ y, (Fra.bytes k bd).length = y := ⟨_, rfl⟩
            have hyl : y ≤ 500 := by
              have h1 := Fra.bytes_length k bd
              have h2 := (Fra.head_le k bd).2
              omega
            have HM := Lib.hid em
            have HY := Lib.hid hy
            have HR1 := Lib.hid hr1
            have HB1L := Lib.hid hb1
            have d : decide ((j : Int) < (N : Int)) = true := by simp; omega
            have d1 : (0 : Int) ≤ (j : Int) := by omega
            have d2 : (j : Int) < (N : Int) := by omega
            have hlb := Nat.lt_of_lt_of_le hb1 HBR.out.size
            clear em hfj hr1 hy hb1
            go_wp2_with fail
            have hcon := fsize_any wr k A1 m1 c1 bd w.heap.size HBR.out.size HR1.out (by omega)
            rw [HY.out] at hcon
            refine hcon.mono ?_
            clear hcon
            rintro en w8 ⟨rfl, hbn⟩
            have hp2 := (hbn.cell (p := ⟨b1, o1 + j * 2, none⟩) hlb).trans hp1
            have hq2 := (hbn.cell (p := ⟨b1, o1 + j * 2 + 1, none⟩) hlb).trans hq1
            have HBS := Lib.hid (HBR.out.trans (hbn.mono HBR.out.size))
            have HX8 := Lib.hid (hx.trans (hbn.mono hx.size))
            replace HR1 := Lib.hid (HR1.out.below (hbn.mono HBR.out.size))
            have hlb2 := Nat.lt_of_lt_of_le hlb hbn.size
            clear hp1 hq1 hbn hx HBR hlb
            by_cases hfit : g2 + y ≤ n
            · have df : decide ((g2 : Int) + (y : Int) ≤ (n : Int)) = true := by simp; omega
              go_wp2_with fail
              have hcon := fsize_any w8 k A1 m1 c1 bd w.heap.size HBS.out.size HR1.out (by omega)
              rw [HY.out] at hcon
              refine hcon.mono ?_
              clear hcon
              rintro en w9 ⟨rfl, hbn⟩
              replace HX8 := Lib.hid (HX8.out.trans (hbn.mono HX8.out.size))
              clear hbn hp2 hq2 HBS hlb2 df
              go_wp2_with fail
              go_roundw
              case rel => exact ⟨j + 1, g2 + y, by omega, by go_num, by go_num, by omega, Lib.hid (by rw [Fra.cat_snoc hjl, HFJ.out, List.length_append, HG2.out, HY.out]), HX8.out⟩
              case measure => simp [intOf] <;> omega
            · have df : decide ((g2 : Int) + (y : Int) ≤ (n : Int)) = false := by simp; omega
              have HALL := Lib.hid (show Fra.all (W.take n) = (fs.take j, g2) from by
                rw [← HW.out, ← HG2.out]
                refine Fra.all_cut fs (fun a ha => by have := HF4.out a ha; omega) (by rw [HW.out, HWL.out]; exact hnL) (Nat.le_of_lt hjl) (by rw [HG2.out]; exact hg2) (.inr ⟨hjl, ?_⟩)
                rw [HFJ.out, HG2.out, HY.out]
                omega)
              have HXZ := HX8
              clear hp2 hq2 hlb2 HR1 HX8
              have HBZ := HBS
              clear HBS
              have HO7z := Lib.hid (own_ext HO7.out HXZ.out)
              have HJL := Lib.hid (show (fs.take j).length = j from by rw [List.length_take]; have := HL.out; omega)
              have e0 : (0 : Int) ≤ (n : Int) := by omega
              have e1 : (n : Int) ≤ (c7 : Int) := by have := HC7.out; omega
              have j0 : (0 : Int) ≤ (j : Int) := by omega
              have j1 : (j : Int) ≤ (cap : Int) := by omega
              go_wp2_with fail
              have hcon := fall_any w8 D7 n c7 (W.take n) w8.heap.size (Nat.le_refl _) ((Rd.of_own HO7z.out).front (by omega)) (by have := HC7.out; omega) HC7.out.2 (by omega)
              rw [HALL.out] at hcon
              unfold FrAll at hcon
              simp only [HJL.out] at hcon
              refine hcon.mono ?_
              clear hcon
              rintro en w10 ⟨D18, c18, v18, rfl, ho18, hof18, hbn⟩
              have HO18 := Lib.hid ho18
              have HF18 := Lib.hid hof18
              replace HBZ := Lib.hid (HBZ.out.trans (hbn.mono HBZ.out.size))
              clear ho18 hof18 hbn
              go_wp2_with fail
              refine (refs_any w10 _ j cap (fs.take j) w.heap.size HBZ.out.size ((H.out.below HBZ.out).upto (by omega)) (by omega) (fun f hf => HFM.out f (List.mem_of_mem_take hf))).mono ?_
              rintro en w11 ⟨D123, c123, v123, rfl, ho, hof, hbn⟩
              have HO1 := Lib.hid ho
              have HF1 := Lib.hid hof
              replace HO18 := Lib.hid (own_ext HO18.out hbn)
              replace HF18 := Lib.hid (HF18.out.ext hbn)
              replace HBZ := Lib.hid (HBZ.out.trans (hbn.mono HBZ.out.size))
              clear ho hof hbn
              go_wp2_with fail
              refine (lsameAll_any w11 D18 j c18 (fs.take j) D123 j c123 (fs.take j) w11.heap.size w11.heap.size (Nat.le_refl _) (Nat.le_refl _) (RdFr.of_own HJL.out HO18.out HF18.out) (RdFr.of_own HJL.out HO1.out HF1.out) (by omega) (by omega) (fun f hf => by have := HFM.out f (List.mem_of_mem_take hf); omega) (fun f hf => by have := HFM.out f (List.mem_of_mem_take hf); omega) true (by simp)).mono ?_
              rintro en w12 ⟨rfl, hbn⟩
              replace HBZ := Lib.hid (HBZ.out.trans (hbn.mono HBZ.out.size))
              clear hbn
              have eg : ((g2 : Int) == (g2 : Int)) = true := by simp
              go_wp2_with fail
              refine (fworks_any _).mono ?_
              rintro en w13 ⟨rfl, hbn⟩
              replace HBZ := Lib.hid (HBZ.out.trans (hbn.mono HBZ.out.size))
              go_wp2_with fail
              go_ret
              exact ⟨rfl, HBZ.out⟩
          · obtain rfl : N = j := by omega
            have d : decide ((N : Int) < (N : Int)) = false := by simp
            have HALL := Lib.hid (show Fra.all (W.take n) = (fs.take N, g2) from by
                rw [← HW.out, ← HG2.out]
                exact Fra.all_cut fs (fun a ha => by have := HF4.out a ha; omega) (by rw [HW.out, HWL.out]; exact hnL) (by have := HL.out; omega) (by rw [HG2.out]; exact hg2) (.inl HL.out.symm))
            have HBZ := HBR
            have HXZ := Lib.hid hx
            clear hx HBR
            have HO7z := Lib.hid (own_ext HO7.out HXZ.out)
            have HJL := Lib.hid (show (fs.take N).length = N from by rw [List.length_take]; have := HL.out; omega)
            have e0 : (0 : Int) ≤ (n : Int) := by omega
            have e1 : (n : Int) ≤ (c7 : Int) := by have := HC7.out; omega
            have j0 : (0 : Int) ≤ (N : Int) := by omega
            have j1 : (N : Int) ≤ (cap : Int) := by omega
            go_wp2_with fail
            have hcon := fall_any wr D7 n c7 (W.take n) wr.heap.size (Nat.le_refl _) ((Rd.of_own HO7z.out).front (by omega)) (by have := HC7.out; omega) HC7.out.2 (by omega)
            rw [HALL.out] at hcon
            unfold FrAll at hcon
            simp only [HJL.out] at hcon
            refine hcon.mono ?_
            clear hcon
            rintro en w10 ⟨D18, c18, v18, rfl, ho18, hof18, hbn⟩
            have HO18 := Lib.hid ho18
            have HF18 := Lib.hid hof18
            replace HBZ := Lib.hid (HBZ.out.trans (hbn.mono HBZ.out.size))
            clear ho18 hof18 hbn
            go_wp2_with fail
            refine (refs_any w10 _ N cap (fs.take N) w.heap.size HBZ.out.size ((H.out.below HBZ.out).upto (by omega)) (by omega) (fun f hf => HFM.out f (List.mem_of_mem_take hf))).mono ?_
            rintro en w11 ⟨D123, c123, v123, rfl, ho, hof, hbn⟩
            have HO1 := Lib.hid ho
            have HF1 := Lib.hid hof
            replace HO18 := Lib.hid (own_ext HO18.out hbn)
            replace HF18 := Lib.hid (HF18.out.ext hbn)
            replace HBZ := Lib.hid (HBZ.out.trans (hbn.mono HBZ.out.size))
            clear ho hof hbn
            go_wp2_with fail
            refine (lsameAll_any w11 D18 N c18 (fs.take N) D123 N c123 (fs.take N) w11.heap.size w11.heap.size (Nat.le_refl _) (Nat.le_refl _) (RdFr.of_own HJL.out HO18.out HF18.out) (RdFr.of_own HJL.out HO1.out HF1.out) (by omega) (by omega) (fun f hf => by have := HFM.out f (List.mem_of_mem_take hf); omega) (fun f hf => by have := HFM.out f (List.mem_of_mem_take hf); omega) true (by simp)).mono ?_
            rintro en w12 ⟨rfl, hbn⟩
            replace HBZ := Lib.hid (HBZ.out.trans (hbn.mono HBZ.out.size))
            clear hbn
            have eg : ((g2 : Int) == (g2 : Int)) = true := by simp
            go_wp2_with fail
            refine (fworks_any _).mono ?_
            rintro en w13 ⟨rfl, hbn⟩
            replace HBZ := Lib.hid (HBZ.out.trans (hbn.mono HBZ.out.size))
            go_wp2_with fail
            go_ret
            exact ⟨rfl, HBZ.out⟩

end Go.Proofs.Ytnncohajlmbedaa
