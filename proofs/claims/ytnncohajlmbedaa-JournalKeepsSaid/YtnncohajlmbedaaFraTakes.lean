/-
  The walk of FrameTakes: it returns true.
-/
import Derived.Test.YtnncohajlmbedaaFraWorks
namespace Go.Proofs.Ytnncohajlmbedaa
open Go.RowKit
attribute [local go_sem] match_undef
theorem own_apart {w w' w0 : World} {base base' : Nat} {te tr : TypeId} {s s' n n' : Nat} {v u : Value} {xs ys : List Value} (h : w.ownsRow base te s v n xs) (hg : w.grownBy w' u.ownBlock) (hu : w0.ownsRow base' tr s' u n' ys) (hz : w0.heap.size ≤ base) :
    w'.ownsRow base te s v n xs := by
  refine h.kept hg ?_
  rcases h.2 with ⟨rfl, _⟩ | ⟨g, cap, cur, rfl, hb, hh, _⟩
  · exact .inl rfl
  · right
    rcases hu.2 with ⟨rfl, _⟩ | ⟨g', cap', cur', rfl, _, hh', _⟩
    · simp [Value.ownBlock]
    · intro e
      have e2 : g = g' := by simpa [Value.ownBlock] using e
      have h1 : g' < w0.heap.size := Whole.lt (show Whole w0 g' tr cur' from hh')
      omega
theorem whole_apart {w w' : World} {g : Nat} {t : TypeId} {cs : Array Value} {base' : Nat} {tr : TypeId} {s' n' : Nat} {u : Value} {ys : List Value} (h : Whole w g t cs) (hg : w.grownBy w' u.ownBlock) (hu : w.ownsRow base' tr s' u n' ys) (hne : t ≠ tr) : Whole w' g t cs := by
  refine h.grown hg ?_
  rcases hu.2 with ⟨rfl, _⟩ | ⟨g', cap', cur', rfl, _, hh', _⟩
  · simp [Value.ownBlock]
  · intro e
    have e2 : g = g' := by simpa [Value.ownBlock] using e
    subst e2
    have h1 : w.heap[g]? = some (.cells cs t (0, 0)) := h
    rw [hh'] at h1
    injection h1 with h1
    injection h1 with _ h2
    exact hne h2.symm
theorem Fra.bd_le (b : List UInt8) (p : Int) : (Fra.take b p).2.1.length ≤ b.length := by
  rcases Fra.way b p with ⟨h0, e⟩ | ⟨q, hp, hq, x, hx, hv, e⟩ | ⟨q, v, s, hp, hq, hv, hs, hs2, hbig, h64, e⟩ | ⟨q, v, s, hp, hq, hv, hs, hs2, hbig, hlen, e⟩ | ⟨q, v, s, hp, hq, hv, hs, hs2, hbig, hlen, hsum, e⟩ | ⟨q, v, s, hp, hq, hv, hs, hs2, hbig, hlen, hsum, e⟩ <;> rw [e] <;> simp
  omega
theorem Fra.one_le (b : List UInt8) : (Fra.one b).2.1.length ≤ b.length := by
  unfold Fra.one
  split
  · simp
  · split
    · simp
    · exact Fra.bd_le b 0
theorem Fra.allF_le (b : List UInt8) : ∀ f p, (Fra.allF b f p).1.length ≤ f ∧ ∀ x ∈ (Fra.allF b f p).1, x.2.length ≤ b.length
  | 0, p => ⟨Nat.le_refl _, by simp [Fra.allF]⟩
  | f + 1, p => by
    have h1 := Fra.allF_le b f (Fra.take b p).2.2.1.toNat
    unfold Fra.allF
    split
    · refine ⟨by simp only [List.length_cons]; omega, fun x hx => ?_⟩
      simp only [List.mem_cons] at hx
      rcases hx with rfl | hx
      · exact Fra.bd_le b p
      · exact h1.2 x hx
    · exact ⟨by simp, by simp⟩

set_option maxRecDepth 100000 in
set_option maxHeartbeats 20000000 in
theorem frameTakes_any (w : World) (A : Option Addr) (n cap : Nat) (b : List UInt8) (h : Rd w w.heap.size 1 A n (byts b)) (hc : n ≤ cap) (hcm : cap ≤ maxLen) (p : Int) (hp1 : -9223372036854775808 ≤ p) (hp2 : p ≤ 9223372036854775807) :
    Calls Try.prog 3 #[.slice A n cap, .int .i64 p] w fun en w' => en = .returned (.bool true) ∧ Below w.heap.size w w' := by
  have hl := h.blen
  have HL0 := Lib.hid hl
  have H := Lib.hid h
  clear h
  by_cases hbig : 2000 < n
  · have hd : decide ((2000 : Int) < (n : Int)) = true := by simp; omega
    go_enter Try.func3, Try.ntmps3
    go_wp2_with fail
    refine (fworks_any _).mono ?_
    rintro en w1 ⟨rfl, hb⟩
    go_wp2_with fail
    go_ret
    exact ⟨rfl, hb⟩
  · have hd : decide ((2000 : Int) < (n : Int)) = false := by simp; omega
    have hn : n ≤ 2000 := by omega
    obtain ⟨t, ht⟩ : ∃ t, Fra.take b p = t := ⟨_, rfl⟩
    obtain ⟨k, bd, nx, x⟩ := t
    obtain ⟨u, hu⟩ : ∃ t, Fra.one b = t := ⟨_, rfl⟩
    obtain ⟨k1, bd1, x1⟩ := u
    obtain ⟨a, ha⟩ : ∃ t, Fra.all b = t := ⟨_, rfl⟩
    obtain ⟨fs, pg⟩ := a
    have hbl := Fra.bd_le b p
    have hbl1 := Fra.one_le b
    have hfl := Fra.allF_le b (b.length + 1) 0
    change (Fra.all b).1.length ≤ _ ∧ _ at hfl
    rw [ht] at hbl
    rw [hu] at hbl1
    rw [show Fra.allF b (b.length + 1) 0 = Fra.all b from rfl, ha] at hfl
    simp only at hbl hbl1 hfl
    obtain ⟨m, hm1⟩ : ∃ m, bd.length = m := ⟨_, rfl⟩
    obtain ⟨m1, hm2⟩ : ∃ m, bd1.length = m := ⟨_, rfl⟩
    obtain ⟨N, hN⟩ : ∃ m, fs.length = m := ⟨_, rfl⟩
    have hml : m ≤ 2000 := by omega
    have hml1 : m1 ≤ 2000 := by omega
    have hNl : N ≤ 2001 := by omega
    have HFS := Lib.hid (show ∀ f ∈ fs, f.2.length ≤ 140737488351232 from fun f hf => by have := hfl.2 f hf; omega)
    have HNN := Lib.hid hN
    have htk := fun (w : World) A cap h1 h2 h3 h4 => ftake_any w A n cap b h1 h2 h3 h4
    have HT := Lib.hid ht
    have HU := Lib.hid hu
    have HA := Lib.hid ha
    have HM := Lib.hid hm1
    have HM1 := Lib.hid hm2
    clear ht hu ha hbl hbl1 hfl hm1 hm2 hN htk
    go_enter Try.func3, Try.ntmps3
    go_wp2_with fail
    have hown := own_any w A n cap b w.heap.size H.out (by omega)
    rw [hl] at hown
    refine hown.mono ?_
    clear hown
    rintro en w5 ⟨D5, c5, rfl, ho5, hb0⟩
    have HOWN := Lib.hid ho5
    have HB0 := Lib.hid hb0
    have HCAP := Lib.hid (own_cap ho5)
    have HRD5 := Lib.hid (Rd.of_own ho5)
    clear ho5 hb0 hl
    have hC : Below w5.heap.size w5 w5 := Below.refl _ _
    go_wp2_with fail
    have htk := ftake_any w5 A n cap b w.heap.size (Nat.le_trans HB0.out.size hC.size) (H.out.below (HB0.out.trans (hC.mono HB0.out.size))) hc hcm (by omega) p hp1 hp2
    rw [HT.out] at htk
    unfold FrP at htk
    simp only [HM.out] at htk
    refine htk.mono ?_
    clear htk
    rintro en w6 ⟨D6, cD6, rfl, ho6, hbn⟩
    have hsz := hC.size
    have HD6 := Lib.hid (own_base ho6 hsz)
    have HSD6 := Lib.hid ho6
    replace HOWN := Lib.hid (own_ext HOWN.out hbn)
    replace hC := hC.trans (hbn.mono hC.size)
    clear ho6 hbn hsz
    have HZ6 := Lib.hid (Nat.le_refl w6.heap.size)
    go_wp2_with fail
    have kn := Whole.new w6 26 #[.int .u8 (k.toNat : Nat), .slice D6 m cD6]
    have hbn := below1 w6 (.cells #[.int .u8 (k.toNat : Nat), .slice D6 m cD6] 26)
    replace HOWN := Lib.hid (own_ext HOWN.out hbn)
    replace HD6 := Lib.hid (own_ext HD6.out hbn)
    replace HZ6 := Lib.hid (Nat.le_trans HZ6.out hbn.size)
    replace hC := hC.trans (hbn.mono hC.size)
    obtain ⟨g6, hgg⟩ : ∃ g, w6.heap.size = g := ⟨_, rfl⟩
    rw [hgg] at kn ⊢
    have Kg6 := Lib.hid kn
    clear kn hgg hbn
    generalize World.alloc w6 (.cells #[.int .u8 (k.toNat : Nat), .slice D6 m cD6] 26) = w7 at Kg6 HOWN HD6 HZ6 hC ⊢
    have htk := rtake_any w7 D5 n c5 b w7.heap.size (Nat.le_refl _) (Rd.of_own HOWN.out) HCAP.out.1 (by omega) p hp1 hp2
    rw [HT.out] at htk
    unfold FrP at htk
    simp only [HM.out] at htk
    refine htk.mono ?_
    clear htk
    rintro en w8 ⟨D7, cD7, rfl, ho7, hbn⟩
    have hsz := hC.size
    have HD7 := Lib.hid (own_base ho7 hsz)
    have HSD7 := Lib.hid ho7
    replace HOWN := Lib.hid (own_ext HOWN.out hbn)
    replace HD6 := Lib.hid (own_ext HD6.out hbn)
    replace HZ6 := Lib.hid (Nat.le_trans HZ6.out hbn.size)
    replace Kg6 := Lib.hid (Kg6.out.below hbn Kg6.out.lt)
    replace hC := hC.trans (hbn.mono hC.size)
    clear ho7 hbn hsz
    go_wp2_with fail
    have kn := Whole.new w8 30 #[.int .u8 (k.toNat : Nat), .slice D7 m cD7]
    have hbn := below1 w8 (.cells #[.int .u8 (k.toNat : Nat), .slice D7 m cD7] 30)
    replace HOWN := Lib.hid (own_ext HOWN.out hbn)
    replace HD6 := Lib.hid (own_ext HD6.out hbn)
    replace HZ6 := Lib.hid (Nat.le_trans HZ6.out hbn.size)
    replace Kg6 := Lib.hid (Kg6.out.below hbn Kg6.out.lt)
    replace HD7 := Lib.hid (own_ext HD7.out hbn)
    replace hC := hC.trans (hbn.mono hC.size)
    obtain ⟨g9, hgg⟩ : ∃ g, w8.heap.size = g := ⟨_, rfl⟩
    rw [hgg] at kn ⊢
    have Kg9 := Lib.hid kn
    clear kn hgg hbn
    generalize World.alloc w8 (.cells #[.int .u8 (k.toNat : Nat), .slice D7 m cD7] 30) = w9 at Kg9 HOWN HD6 HZ6 Kg6 HD7 hC ⊢
    have htk := fall_any w9 A n cap b w.heap.size (Nat.le_trans HB0.out.size hC.size) (H.out.below (HB0.out.trans (hC.mono HB0.out.size))) hc hcm (by omega)
    rw [HA.out] at htk
    unfold FrAll at htk
    simp only [HNN.out] at htk
    refine htk.mono ?_
    clear htk
    rintro en w10 ⟨D12, cD12, vD12, rfl, ho12, hof, hbn⟩
    have HD12 := Lib.hid ho12
    have HFD12 := Lib.hid hof
    replace HOWN := Lib.hid (own_ext HOWN.out hbn)
    replace HD6 := Lib.hid (own_ext HD6.out hbn)
    replace HZ6 := Lib.hid (Nat.le_trans HZ6.out hbn.size)
    replace Kg6 := Lib.hid (Kg6.out.below hbn Kg6.out.lt)
    replace HD7 := Lib.hid (own_ext HD7.out hbn)
    replace Kg9 := Lib.hid (Kg9.out.below hbn Kg9.out.lt)
    replace hC := hC.trans (hbn.mono hC.size)
    clear ho12 hbn hof
    go_wp2_with fail
    have htk := rall_any w10 D5 n c5 b w10.heap.size (Nat.le_refl _) (Rd.of_own HOWN.out) HCAP.out.1 (by omega)
    rw [HA.out] at htk
    unfold FrAll at htk
    simp only [HNN.out] at htk
    refine htk.mono ?_
    clear htk
    rintro en w11 ⟨D14, cD14, vD14, rfl, ho14, hof, hbn⟩
    have HD14 := Lib.hid ho14
    have HFD14 := Lib.hid hof
    replace HOWN := Lib.hid (own_ext HOWN.out hbn)
    replace HD6 := Lib.hid (own_ext HD6.out hbn)
    replace HZ6 := Lib.hid (Nat.le_trans HZ6.out hbn.size)
    replace Kg6 := Lib.hid (Kg6.out.below hbn Kg6.out.lt)
    replace HD7 := Lib.hid (own_ext HD7.out hbn)
    replace Kg9 := Lib.hid (Kg9.out.below hbn Kg9.out.lt)
    replace HD12 := Lib.hid (own_ext HD12.out hbn)
    replace HFD12 := Lib.hid (HFD12.out.ext hbn)
    replace hC := hC.trans (hbn.mono hC.size)
    clear ho14 hbn hof
    go_wp2_with fail
    have HZ611 := Lib.hid HZ6.out
    have HZ11 := Lib.hid hC.size
    have htk := fone_any w11 A n cap b w.heap.size (Nat.le_trans HB0.out.size hC.size) (H.out.below (HB0.out.trans (hC.mono HB0.out.size))) hc hcm (by omega)
    rw [HU.out] at htk
    unfold FrOne at htk
    simp only [HM1.out] at htk
    refine htk.mono ?_
    clear htk
    rintro en w12 ⟨D16, cD16, rfl, ho16, hbn⟩
    have HD16 := Lib.hid ho16
    replace HOWN := Lib.hid (own_ext HOWN.out hbn)
    replace HD6 := Lib.hid (own_ext HD6.out hbn)
    replace HZ6 := Lib.hid (Nat.le_trans HZ6.out hbn.size)
    replace Kg6 := Lib.hid (Kg6.out.below hbn Kg6.out.lt)
    replace HD7 := Lib.hid (own_ext HD7.out hbn)
    replace Kg9 := Lib.hid (Kg9.out.below hbn Kg9.out.lt)
    replace HD12 := Lib.hid (own_ext HD12.out hbn)
    replace HFD12 := Lib.hid (HFD12.out.ext hbn)
    replace HD14 := Lib.hid (own_ext HD14.out hbn)
    replace HFD14 := Lib.hid (HFD14.out.ext hbn)
    replace hC := hC.trans (hbn.mono hC.size)
    clear ho16 hbn
    go_wp2_with fail
    have kn := Whole.new w12 26 #[.int .u8 (k1.toNat : Nat), .slice D16 m1 cD16]
    have hbn := below1 w12 (.cells #[.int .u8 (k1.toNat : Nat), .slice D16 m1 cD16] 26)
    replace HOWN := Lib.hid (own_ext HOWN.out hbn)
    replace HD6 := Lib.hid (own_ext HD6.out hbn)
    replace HZ6 := Lib.hid (Nat.le_trans HZ6.out hbn.size)
    replace Kg6 := Lib.hid (Kg6.out.below hbn Kg6.out.lt)
    replace HD7 := Lib.hid (own_ext HD7.out hbn)
    replace Kg9 := Lib.hid (Kg9.out.below hbn Kg9.out.lt)
    replace HD12 := Lib.hid (own_ext HD12.out hbn)
    replace HFD12 := Lib.hid (HFD12.out.ext hbn)
    replace HD14 := Lib.hid (own_ext HD14.out hbn)
    replace HFD14 := Lib.hid (HFD14.out.ext hbn)
    replace HD16 := Lib.hid (own_ext HD16.out hbn)
    replace hC := hC.trans (hbn.mono hC.size)
    obtain ⟨g16, hgg⟩ : ∃ g, w12.heap.size = g := ⟨_, rfl⟩
    rw [hgg] at kn ⊢
    have Kg16 := Lib.hid kn
    clear kn hgg hbn
    generalize World.alloc w12 (.cells #[.int .u8 (k1.toNat : Nat), .slice D16 m1 cD16] 26) = w13 at Kg16 HOWN HD6 HZ6 Kg6 HD7 Kg9 HD12 HFD12 HD14 HFD14 HD16 hC ⊢
    have htk := rone_any w13 D5 n c5 b w13.heap.size (Nat.le_refl _) (Rd.of_own HOWN.out) HCAP.out.1 (by omega)
    rw [HU.out] at htk
    unfold FrOne at htk
    simp only [HM1.out] at htk
    refine htk.mono ?_
    clear htk
    rintro en w14 ⟨D18, cD18, rfl, ho18, hbn⟩
    have HD18 := Lib.hid ho18
    replace HOWN := Lib.hid (own_ext HOWN.out hbn)
    replace HD6 := Lib.hid (own_ext HD6.out hbn)
    replace HZ6 := Lib.hid (Nat.le_trans HZ6.out hbn.size)
    replace Kg6 := Lib.hid (Kg6.out.below hbn Kg6.out.lt)
    replace HD7 := Lib.hid (own_ext HD7.out hbn)
    replace Kg9 := Lib.hid (Kg9.out.below hbn Kg9.out.lt)
    replace HD12 := Lib.hid (own_ext HD12.out hbn)
    replace HFD12 := Lib.hid (HFD12.out.ext hbn)
    replace HD14 := Lib.hid (own_ext HD14.out hbn)
    replace HFD14 := Lib.hid (HFD14.out.ext hbn)
    replace HD16 := Lib.hid (own_ext HD16.out hbn)
    replace Kg16 := Lib.hid (Kg16.out.below hbn Kg16.out.lt)
    replace hC := hC.trans (hbn.mono hC.size)
    clear ho18 hbn
    have sx : (((x : Nat) : Int) != ((x : Nat) : Int)) = false := by simp
    have sn : (nx != nx) = false := by simp
    have sp : (((pg : Nat) : Int) != ((pg : Nat) : Int)) = false := by simp
    have sx1 : (((x1 : Nat) : Int) != ((x1 : Nat) : Int)) = false := by simp
    have ag60 := Kg6.out.cell 0
    have ag61 := Kg6.out.cell 1
    have lg6 := Kg6.out.lt
    simp at ag60 ag61
    have ag90 := Kg9.out.cell 0
    have ag91 := Kg9.out.cell 1
    have lg9 := Kg9.out.lt
    simp at ag90 ag91
    have ag160 := Kg16.out.cell 0
    have ag161 := Kg16.out.cell 1
    have lg16 := Kg16.out.lt
    simp at ag160 ag161
    go_wp2_with fail
    clear ag60 ag61 lg6 ag90 ag91 lg9 ag160 ag161 lg16
    have kn := Whole.new w14 30 #[.int .u8 (k1.toNat : Nat), .slice D18 m1 cD18]
    have hbn := below1 w14 (.cells #[.int .u8 (k1.toNat : Nat), .slice D18 m1 cD18] 30)
    replace HOWN := Lib.hid (own_ext HOWN.out hbn)
    replace HD6 := Lib.hid (own_ext HD6.out hbn)
    replace HZ6 := Lib.hid (Nat.le_trans HZ6.out hbn.size)
    replace Kg6 := Lib.hid (Kg6.out.below hbn Kg6.out.lt)
    replace HD7 := Lib.hid (own_ext HD7.out hbn)
    replace Kg9 := Lib.hid (Kg9.out.below hbn Kg9.out.lt)
    replace HD12 := Lib.hid (own_ext HD12.out hbn)
    replace HFD12 := Lib.hid (HFD12.out.ext hbn)
    replace HD14 := Lib.hid (own_ext HD14.out hbn)
    replace HFD14 := Lib.hid (HFD14.out.ext hbn)
    replace HD16 := Lib.hid (own_ext HD16.out hbn)
    replace Kg16 := Lib.hid (Kg16.out.below hbn Kg16.out.lt)
    replace HD18 := Lib.hid (own_ext HD18.out hbn)
    replace hC := hC.trans (hbn.mono hC.size)
    obtain ⟨g18, hgg⟩ : ∃ g, w14.heap.size = g := ⟨_, rfl⟩
    rw [hgg] at kn ⊢
    have Kg18 := Lib.hid kn
    clear kn hgg hbn
    generalize World.alloc w14 (.cells #[.int .u8 (k1.toNat : Nat), .slice D18 m1 cD18] 30) = w15 at Kg18 HOWN HD6 HZ6 Kg6 HD7 Kg9 HD12 HFD12 HD14 HFD14 HD16 Kg16 HD18 hC ⊢
    refine (lsame_any w15 k D6 m cD6 bd k D7 m cD7 bd w15.heap.size w15.heap.size (Nat.le_refl _) (Nat.le_refl _) (Rd.of_own HD6.out) (Rd.of_own HD7.out) (by omega) (by omega) true (by simp)).mono ?_
    rintro en w16 ⟨rfl, hbn⟩
    replace HOWN := Lib.hid (own_ext HOWN.out hbn)
    replace HD6 := Lib.hid (own_ext HD6.out hbn)
    replace HZ6 := Lib.hid (Nat.le_trans HZ6.out hbn.size)
    replace Kg6 := Lib.hid (Kg6.out.below hbn Kg6.out.lt)
    replace HD7 := Lib.hid (own_ext HD7.out hbn)
    replace Kg9 := Lib.hid (Kg9.out.below hbn Kg9.out.lt)
    replace HD12 := Lib.hid (own_ext HD12.out hbn)
    replace HFD12 := Lib.hid (HFD12.out.ext hbn)
    replace HD14 := Lib.hid (own_ext HD14.out hbn)
    replace HFD14 := Lib.hid (HFD14.out.ext hbn)
    replace HD16 := Lib.hid (own_ext HD16.out hbn)
    replace Kg16 := Lib.hid (Kg16.out.below hbn Kg16.out.lt)
    replace HD18 := Lib.hid (own_ext HD18.out hbn)
    replace Kg18 := Lib.hid (Kg18.out.below hbn Kg18.out.lt)
    replace hC := hC.trans (hbn.mono hC.size)
    clear hbn
    have ag60 := Kg6.out.cell 0
    have ag61 := Kg6.out.cell 1
    have lg6 := Kg6.out.lt
    simp at ag60 ag61
    have ag90 := Kg9.out.cell 0
    have ag91 := Kg9.out.cell 1
    have lg9 := Kg9.out.lt
    simp at ag90 ag91
    have ag160 := Kg16.out.cell 0
    have ag161 := Kg16.out.cell 1
    have lg16 := Kg16.out.lt
    simp at ag160 ag161
    have ag180 := Kg18.out.cell 0
    have ag181 := Kg18.out.cell 1
    have lg18 := Kg18.out.lt
    simp at ag180 ag181
    go_wp2_with fail
    clear ag60 ag61 lg6 ag90 ag91 lg9 ag160 ag161 lg16 ag180 ag181 lg18
    refine (lsameAll_any w16 D12 N cD12 fs D14 N cD14 fs w16.heap.size w16.heap.size (Nat.le_refl _) (Nat.le_refl _) (RdFr.of_own HNN.out HD12.out HFD12.out) (RdFr.of_own HNN.out HD14.out HFD14.out) (by omega) (by omega) HFS.out HFS.out true (by simp)).mono ?_
    rintro en w17 ⟨rfl, hbn⟩
    replace HOWN := Lib.hid (own_ext HOWN.out hbn)
    replace HD6 := Lib.hid (own_ext HD6.out hbn)
    replace HZ6 := Lib.hid (Nat.le_trans HZ6.out hbn.size)
    replace Kg6 := Lib.hid (Kg6.out.below hbn Kg6.out.lt)
    replace HD7 := Lib.hid (own_ext HD7.out hbn)
    replace Kg9 := Lib.hid (Kg9.out.below hbn Kg9.out.lt)
    replace HD12 := Lib.hid (own_ext HD12.out hbn)
    replace HFD12 := Lib.hid (HFD12.out.ext hbn)
    replace HD14 := Lib.hid (own_ext HD14.out hbn)
    replace HFD14 := Lib.hid (HFD14.out.ext hbn)
    replace HD16 := Lib.hid (own_ext HD16.out hbn)
    replace Kg16 := Lib.hid (Kg16.out.below hbn Kg16.out.lt)
    replace HD18 := Lib.hid (own_ext HD18.out hbn)
    replace Kg18 := Lib.hid (Kg18.out.below hbn Kg18.out.lt)
    replace hC := hC.trans (hbn.mono hC.size)
    clear hbn
    have ag60 := Kg6.out.cell 0
    have ag61 := Kg6.out.cell 1
    have lg6 := Kg6.out.lt
    simp at ag60 ag61
    have ag90 := Kg9.out.cell 0
    have ag91 := Kg9.out.cell 1
    have lg9 := Kg9.out.lt
    simp at ag90 ag91
    have ag160 := Kg16.out.cell 0
    have ag161 := Kg16.out.cell 1
    have lg16 := Kg16.out.lt
    simp at ag160 ag161
    have ag180 := Kg18.out.cell 0
    have ag181 := Kg18.out.cell 1
    have lg18 := Kg18.out.lt
    simp at ag180 ag181
    go_wp2_with fail
    clear ag60 ag61 lg6 ag90 ag91 lg9 ag160 ag161 lg16 ag180 ag181 lg18
    refine (lsame_any w17 k1 D16 m1 cD16 bd1 k1 D18 m1 cD18 bd1 w17.heap.size w17.heap.size (Nat.le_refl _) (Nat.le_refl _) (Rd.of_own HD16.out) (Rd.of_own HD18.out) (by omega) (by omega) true (by simp)).mono ?_
    rintro en w18 ⟨rfl, hbn⟩
    replace HOWN := Lib.hid (own_ext HOWN.out hbn)
    replace HD6 := Lib.hid (own_ext HD6.out hbn)
    replace HZ6 := Lib.hid (Nat.le_trans HZ6.out hbn.size)
    replace Kg6 := Lib.hid (Kg6.out.below hbn Kg6.out.lt)
    replace HD7 := Lib.hid (own_ext HD7.out hbn)
    replace Kg9 := Lib.hid (Kg9.out.below hbn Kg9.out.lt)
    replace HD12 := Lib.hid (own_ext HD12.out hbn)
    replace HFD12 := Lib.hid (HFD12.out.ext hbn)
    replace HD14 := Lib.hid (own_ext HD14.out hbn)
    replace HFD14 := Lib.hid (HFD14.out.ext hbn)
    replace HD16 := Lib.hid (own_ext HD16.out hbn)
    replace Kg16 := Lib.hid (Kg16.out.below hbn Kg16.out.lt)
    replace HD18 := Lib.hid (own_ext HD18.out hbn)
    replace Kg18 := Lib.hid (Kg18.out.below hbn Kg18.out.lt)
    replace hC := hC.trans (hbn.mono hC.size)
    clear hbn
    have ag60 := Kg6.out.cell 0
    have ag61 := Kg6.out.cell 1
    have lg6 := Kg6.out.lt
    simp at ag60 ag61
    have ag90 := Kg9.out.cell 0
    have ag91 := Kg9.out.cell 1
    have lg9 := Kg9.out.lt
    simp at ag90 ag91
    have ag160 := Kg16.out.cell 0
    have ag161 := Kg16.out.cell 1
    have lg16 := Kg16.out.lt
    simp at ag160 ag161
    have ag180 := Kg18.out.cell 0
    have ag181 := Kg18.out.cell 1
    have lg18 := Kg18.out.lt
    simp at ag180 ag181
    go_wp2_with fail
    clear ag60 ag61 lg6 ag90 ag91 lg9 ag160 ag161 lg16 ag180 ag181 lg18
    refine (spoil_any w18 D6 m cD6 (byts bd) w5.heap.size 5 HD6.out (by omega)).mono ?_
    rintro en w19 ⟨rfl, hgr, hbn⟩
    have HX16 := Lib.hid (own_apart HD16.out hgr HSD6.out HZ611.out)
    have KX16 := Lib.hid (whole_apart Kg16.out hgr HD6.out (show 26 ≠ 5 by decide))
    replace hC := hC.trans hbn
    have ax0 := KX16.out.cell 0
    have ax1 := KX16.out.cell 1
    simp at ax0 ax1
    clear hgr hbn
    go_wp2_with fail
    refine (spoil_any w19 D16 m1 cD16 (byts bd1) w11.heap.size 5 HX16.out (by omega)).mono ?_
    rintro en w20 ⟨rfl, _, hbn⟩
    replace hC := hC.trans (hbn.mono HZ11.out)
    clear hbn ax0 ax1
    go_wp2_with fail
    refine (same_any w20 A n cap b D5 n c5 b w.heap.size w5.heap.size (Nat.le_trans HB0.out.size hC.size) hC.size (H.out.below (HB0.out.trans (hC.mono HB0.out.size))) (HRD5.out.below hC) (by omega) (by omega) true (by simp)).mono ?_
    rintro en w21 ⟨rfl, hbn⟩
    replace hC := hC.trans (hbn.mono hC.size)
    clear hbn
    go_wp2_with fail
    refine (fworks_any _).mono ?_
    rintro en w22 ⟨rfl, hbn⟩
    replace hC := hC.trans (hbn.mono hC.size)
    go_wp2_with fail
    go_ret
    exact ⟨rfl, HB0.out.trans (hC.mono HB0.out.size)⟩

end Go.Proofs.Ytnncohajlmbedaa
