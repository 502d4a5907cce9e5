/-
  The walk of JournalAppends: it returns true.
-/
import Derived.Test.YtnncohajlmbedaaJouWorks
namespace Go.Proofs.Ytnncohajlmbedaa
open Go.RowKit
attribute [local go_sem] match_undef
theorem Jou.jcat_le : ∀ (fs : List Fr), (∀ j (hj : j < fs.length), fs[j].2.length ≤ 65535) → (Fra.cat fs).length ≤ fs.length * 65550
  | [], _ => by simp [Fra.cat]
  | f :: fs, h => by
    have h1 := Jou.jcat_le fs (fun j hj => h (j + 1) (by simp; omega))
    have h2 := h 0 (by simp)
    simp only [List.getElem_cons_zero] at h2
    have h3 := Fra.bytes_length f.1 f.2
    have h4 := (Fra.head_le f.1 f.2).2
    have e : Fra.cat (f :: fs) = Fra.bytes f.1 f.2 ++ Fra.cat fs := by unfold Fra.cat; rw [List.flatMap_cons]
    rw [e, List.length_append, List.length_cons]
    omega
theorem Jou.jjoin_le (fs : List Fr) : (Fra.joinB fs).length ≤ fs.length * 65550 := by
  unfold Fra.joinB
  split
  · simp
  · rename_i h
    refine Jou.jcat_le fs fun j hj => ?_
    rcases Nat.lt_or_ge 65535 fs[j].2.length with h1 | h1
    · exact absurd (Fra.over_at hj h1) h
    · exact h1
theorem Jou.appB_le (b p : List UInt8) : (Jou.appB b p).length ≤ b.length + 65550 := by
  unfold Jou.appB
  split
  · simp
  · have h3 := Fra.bytes_length 9 p
    have h4 := (Fra.head_le 9 p).2
    rw [List.length_append, List.length_take]
    omega

set_option maxRecDepth 100000 in
set_option maxHeartbeats 20000000 in
theorem jappends_short (w : World) (A : Option Addr) (n cap : Nat) (b : List UInt8) (h : Rd w w.heap.size 1 A n (byts b)) (hc : n ≤ cap) (hm : cap ≤ maxLen) (A2 : Option Addr) (m cap2 : Nat) (p : List UInt8) (h2 : Rd w w.heap.size 1 A2 m (byts p)) (hc2 : m ≤ cap2) (hm2 : cap2 ≤ maxLen) (hn2 : m ≤ 140737488351232) (A3 : Option Addr) (N cap3 : Nat) (ls : List (List UInt8)) (h3 : RdRows w w.heap.size A3 N ls) (hN : N ≤ 9223372036854775807) (hn : n ≤ 1500) (hp : m ≤ 200) (hr : decide ((∀ a (ha : a < ls.length), a < 11 → ls[a].length ≤ 200) ∧ N ≤ 10) = true) :
    Calls Try.prog 9 #[.slice A n cap, .slice A2 m cap2, .slice A3 N cap3] w fun en w' => en = .returned (.bool true) ∧ Below w.heap.size w w' := by
  have HL := Lib.hid h.blen
  have HL3 := Lib.hid h3.1
  have H := Lib.hid h
  have H2 := Lib.hid h2
  have H3 := Lib.hid h3
  have hb : Below w.heap.size w w := Below.refl _ _
  clear h h2 h3
  have HR := Lib.hid hr
  have d1 : decide ((1500 : Int) < (n : Int)) = false := by simp; omega
  have d2 : decide ((200 : Int) < (m : Int)) = false := by simp; omega
  clear hr
  have hfew := of_decide_eq_true HR.out
  have hN10 : N ≤ 10 := hfew.2
  have HLS := Lib.hid (show ∀ l ∈ ls, l.length ≤ 140737488351232 from fun l hl => by obtain ⟨a, ha, rfl⟩ := List.getElem_of_mem hl; have := hfew.1 a ha (by have := HL3.out; omega); omega)
  have hjl := Jou.jjoin_le (Jou.frs ls)
  have hpl := Jou.appB_le b p
  rw [Jou.frs_length, HL3.out] at hjl
  rw [HL.out] at hpl
  obtain ⟨PB, hPB⟩ : ∃ x, Jou.appB b p = x := ⟨_, rfl⟩
  obtain ⟨pl, hpl0⟩ : ∃ x, PB.length = x := ⟨_, rfl⟩
  obtain ⟨pk, hpk⟩ : ∃ x, Jou.appK b p = x := ⟨_, rfl⟩
  obtain ⟨pn, hpn⟩ : ∃ x, Jou.appN p = x := ⟨_, rfl⟩
  obtain ⟨ps, hps⟩ : ∃ x, Jou.appS p = x := ⟨_, rfl⟩
  obtain ⟨pe, hpe⟩ : ∃ x, Jou.appE p = x := ⟨_, rfl⟩
  obtain ⟨JB, hJB⟩ : ∃ x, Fra.joinB (Jou.frs ls) = x := ⟨_, rfl⟩
  obtain ⟨jl, hjl0⟩ : ∃ x, JB.length = x := ⟨_, rfl⟩
  obtain ⟨je, hje⟩ : ∃ x, Fra.joinE (Jou.frs ls) = x := ⟨_, rfl⟩
  obtain ⟨S, hS⟩ : ∃ x, Crc.update 0 p = x := ⟨_, rfl⟩
  rw [hPB, hpl0] at hpl
  rw [hJB, hjl0] at hjl
  have HAB := Lib.hid hPB
  have HAL := Lib.hid hpl0
  have HAK := Lib.hid hpk
  have HAN := Lib.hid hpn
  have HAS := Lib.hid hps
  have HAE := Lib.hid hpe
  have HJB := Lib.hid hJB
  have HJL := Lib.hid hjl0
  have HJE := Lib.hid hje
  have HCS := Lib.hid hS
  clear hPB hpl0 hpk hpn hps hpe hJB hjl0 hje hS hfew
  go_enter Try.func9, Try.ntmps9
  go_wp2_with fail
  refine (jfew_any w A3 N cap3 ls w.heap.size H3.out hN true HR.out).mono ?_
  rintro en w1 ⟨rfl, rfl⟩
  go_wp2_with fail
  have hcon := own_any w A n cap b w.heap.size H.out (by omega)
  rw [HL.out] at hcon
  refine hcon.mono ?_
  clear hcon
  rintro en w5 ⟨D7, c7, rfl, ho5, hb5⟩
  have HOWN := Lib.hid ho5
  have HC7 := Lib.hid (own_cap ho5)
  have HB5 := Lib.hid hb5
  clear ho5 hb5 hb
  go_wp2_with fail
  go_loopw [8] (fun t wr => ∃ k : Nat, k ≤ 2 ∧ t = .int .i64 k ∧ Below w5.heap.size w5 wr) (fun t _ => 2 - (intOf t).toNat)
  case atStart => exact ⟨0, by omega, rfl, Below.refl _ _⟩
  case round =>
    obtain ⟨t, ht, rfl, hx⟩ := hrel
    have HBR := Lib.hid (HB5.out.trans (hx.mono HB5.out.size))
    have HXX := Lib.hid hx
    clear hx
    by_cases hlt : t < 2
    · have d : decide ((t : Int) < 2) = true := by simp; omega
      go_wp2_with fail
      have hC : Below wr.heap.size wr wr := Below.refl _ _
      have hcon := japp_any wr A n cap b w.heap.size HBR.out.size (H.out.below HBR.out) hc hm (by omega) A2 m cap2 p (H2.out.below HBR.out) hc2 hm2 hn2
      unfold AppP at hcon
      rw [HAB.out, HAL.out, HAK.out, HAN.out, HAS.out, HAE.out] at hcon
      refine hcon.mono ?_
      clear hcon
      rintro en w6 ⟨D9, c9, rfl, ho, hbn⟩
      have HS9 := Lib.hid ho
      have HS9a := Lib.hid ho
      have HZ6 := Lib.hid (Nat.le_refl w6.heap.size)
      have HZA := Lib.hid hbn.size
      replace hC := hC.trans (hbn.mono hC.size)
      clear ho hbn
      go_wp2_with fail
      have kn := Whole.new w6 73 #[.int .u64 (pn : Nat), .int .u64 (ps : Nat)]
      have hbn := below1 w6 (.cells #[.int .u64 (pn : Nat), .int .u64 (ps : Nat)] 73)
      replace HS9 := Lib.hid (own_ext HS9.out hbn)
      replace HZ6 := Lib.hid (Nat.le_trans HZ6.out hbn.size)
      replace hC := hC.trans (hbn.mono hC.size)
      obtain ⟨g11, hgg⟩ : ∃ g, w6.heap.size = g := ⟨_, rfl⟩
      rw [hgg] at kn ⊢
      have Kg11 := Lib.hid kn
      clear kn hgg hbn
      generalize World.alloc w6 (.cells #[.int .u64 (pn : Nat), .int .u64 (ps : Nat)] 73) = w7 at Kg11 HS9 HZ6 hC ⊢
      have hcon := rjapp_any w7 D7 n c7 b w7.heap.size (Nat.le_refl _) ((Rd.of_own (own_ext HOWN.out (HXX.out.trans (hC.mono HXX.out.size))))) HC7.out.1 (by omega) A2 m cap2 p ((H2.out.below (HBR.out.trans (hC.mono HBR.out.size))).more (Nat.le_trans HBR.out.size hC.size)) hc2 hm2 hn2
      unfold AppP at hcon
      rw [HAB.out, HAL.out, HAK.out, HAN.out, HAS.out, HAE.out] at hcon
      refine hcon.mono ?_
      clear hcon
      rintro en w8 ⟨D13, c13, rfl, ho, hbn⟩
      have HS13 := Lib.hid ho
      replace HS9 := Lib.hid (own_ext HS9.out hbn)
      replace HZ6 := Lib.hid (Nat.le_trans HZ6.out hbn.size)
      replace Kg11 := Lib.hid (Kg11.out.below hbn Kg11.out.lt)
      replace hC := hC.trans (hbn.mono hC.size)
      clear ho hbn
      go_wp2_with fail
      have kn := Whole.new w8 76 #[.int .u64 (pn : Nat), .int .u64 (ps : Nat)]
      have hbn := below1 w8 (.cells #[.int .u64 (pn : Nat), .int .u64 (ps : Nat)] 76)
      replace HS9 := Lib.hid (own_ext HS9.out hbn)
      replace HZ6 := Lib.hid (Nat.le_trans HZ6.out hbn.size)
      replace Kg11 := Lib.hid (Kg11.out.below hbn Kg11.out.lt)
      replace HS13 := Lib.hid (own_ext HS13.out hbn)
      replace hC := hC.trans (hbn.mono hC.size)
      obtain ⟨g15, hgg⟩ : ∃ g, w8.heap.size = g := ⟨_, rfl⟩
      rw [hgg] at kn ⊢
      have Kg15 := Lib.hid kn
      clear kn hgg hbn
      generalize World.alloc w8 (.cells #[.int .u64 (pn : Nat), .int .u64 (ps : Nat)] 76) = w9 at Kg15 HS9 HZ6 Kg11 HS13 hC ⊢
      have hcon := jput_any w9 A3 N cap3 ls w.heap.size (Nat.le_trans HBR.out.size hC.size) (H3.out.below (HBR.out.trans (hC.mono HBR.out.size))) (by omega) HLS.out
      unfold BytP at hcon
      rw [HJB.out, HJL.out, HJE.out] at hcon
      refine hcon.mono ?_
      clear hcon
      rintro en w10 ⟨D17, c17, rfl, ho, hbn⟩
      have HS17 := Lib.hid (own_base ho HZ6.out)
      replace HS9 := Lib.hid (own_ext HS9.out hbn)
      replace HZ6 := Lib.hid (Nat.le_trans HZ6.out hbn.size)
      replace Kg11 := Lib.hid (Kg11.out.below hbn Kg11.out.lt)
      replace HS13 := Lib.hid (own_ext HS13.out hbn)
      replace Kg15 := Lib.hid (Kg15.out.below hbn Kg15.out.lt)
      replace hC := hC.trans (hbn.mono hC.size)
      clear ho hbn
      go_wp2_with fail
      have hcon := rjput_any w10 A3 N cap3 ls w.heap.size (Nat.le_trans HBR.out.size hC.size) (H3.out.below (HBR.out.trans (hC.mono HBR.out.size))) (by omega) HLS.out
      unfold BytP at hcon
      rw [HJB.out, HJL.out, HJE.out] at hcon
      refine hcon.mono ?_
      clear hcon
      rintro en w11 ⟨D19, c19, rfl, ho, hbn⟩
      have HS19 := Lib.hid ho
      replace HS9 := Lib.hid (own_ext HS9.out hbn)
      replace HZ6 := Lib.hid (Nat.le_trans HZ6.out hbn.size)
      replace Kg11 := Lib.hid (Kg11.out.below hbn Kg11.out.lt)
      replace HS13 := Lib.hid (own_ext HS13.out hbn)
      replace Kg15 := Lib.hid (Kg15.out.below hbn Kg15.out.lt)
      replace HS17 := Lib.hid (own_ext HS17.out hbn)
      replace hC := hC.trans (hbn.mono hC.size)
      clear ho hbn
      have tk : (((pk : Nat) : Int) != (pk : Int)) = false := by simp
      have te : (((pe : Nat) : Int) != (pe : Int)) = false := by simp
      have tj : (((je : Nat) : Int) != (je : Int)) = false := by simp
      go_wp2_with fail
      refine (same_any w11 D9 pl c9 PB D13 pl c13 PB w11.heap.size w11.heap.size (Nat.le_refl _) (Nat.le_refl _) (Rd.of_own HS9.out) (Rd.of_own HS13.out) (by omega) (by omega) true (by simp)).mono ?_
      rintro en w12 ⟨rfl, hbn⟩
      replace HS9 := Lib.hid (own_ext HS9.out hbn)
      replace HZ6 := Lib.hid (Nat.le_trans HZ6.out hbn.size)
      replace Kg11 := Lib.hid (Kg11.out.below hbn Kg11.out.lt)
      replace HS13 := Lib.hid (own_ext HS13.out hbn)
      replace Kg15 := Lib.hid (Kg15.out.below hbn Kg15.out.lt)
      replace HS17 := Lib.hid (own_ext HS17.out hbn)
      replace HS19 := Lib.hid (own_ext HS19.out hbn)
      replace hC := hC.trans (hbn.mono hC.size)
      clear hbn
      have ag110 := Kg11.out.cell 0
      have ag111 := Kg11.out.cell 1
      have lg11 := Kg11.out.lt
      simp at ag110 ag111
      have ag150 := Kg15.out.cell 0
      have ag151 := Kg15.out.cell 1
      have lg15 := Kg15.out.lt
      simp at ag150 ag151
      go_wp2_with fail
      clear ag110 ag111 lg11 ag150 ag151 lg15
      refine (jsame_any w12 pn ps).mono ?_
      rintro en w13 ⟨rfl, hbn⟩
      replace HS9 := Lib.hid (own_ext HS9.out hbn)
      replace HZ6 := Lib.hid (Nat.le_trans HZ6.out hbn.size)
      replace Kg11 := Lib.hid (Kg11.out.below hbn Kg11.out.lt)
      replace HS13 := Lib.hid (own_ext HS13.out hbn)
      replace Kg15 := Lib.hid (Kg15.out.below hbn Kg15.out.lt)
      replace HS17 := Lib.hid (own_ext HS17.out hbn)
      replace HS19 := Lib.hid (own_ext HS19.out hbn)
      replace hC := hC.trans (hbn.mono hC.size)
      clear hbn
      go_wp2_with fail
      refine (same_any w13 D17 jl c17 JB D19 jl c19 JB w13.heap.size w13.heap.size (Nat.le_refl _) (Nat.le_refl _) (Rd.of_own HS17.out) (Rd.of_own HS19.out) (by omega) (by omega) true (by simp)).mono ?_
      rintro en w14 ⟨rfl, hbn⟩
      replace HS9 := Lib.hid (own_ext HS9.out hbn)
      replace HZ6 := Lib.hid (Nat.le_trans HZ6.out hbn.size)
      replace Kg11 := Lib.hid (Kg11.out.below hbn Kg11.out.lt)
      replace HS13 := Lib.hid (own_ext HS13.out hbn)
      replace Kg15 := Lib.hid (Kg15.out.below hbn Kg15.out.lt)
      replace HS17 := Lib.hid (own_ext HS17.out hbn)
      replace HS19 := Lib.hid (own_ext HS19.out hbn)
      replace hC := hC.trans (hbn.mono hC.size)
      clear hbn
      go_wp2_with fail
      have hcon := jof_any w14 A2 m cap2 p w.heap.size (Nat.le_trans HBR.out.size hC.size) (H2.out.below (HBR.out.trans (hC.mono HBR.out.size))) hc2 hm2 hn2
      rw [HCS.out] at hcon
      refine hcon.mono ?_
      clear hcon
      rintro en w15 ⟨rfl, hbn⟩
      replace HS9 := Lib.hid (own_ext HS9.out hbn)
      replace HZ6 := Lib.hid (Nat.le_trans HZ6.out hbn.size)
      replace Kg11 := Lib.hid (Kg11.out.below hbn Kg11.out.lt)
      replace HS13 := Lib.hid (own_ext HS13.out hbn)
      replace Kg15 := Lib.hid (Kg15.out.below hbn Kg15.out.lt)
      replace HS17 := Lib.hid (own_ext HS17.out hbn)
      replace HS19 := Lib.hid (own_ext HS19.out hbn)
      replace hC := hC.trans (hbn.mono hC.size)
      clear hbn
      go_wp2_with fail
      have hcon := rjof_any w15 A2 m cap2 p w.heap.size (Nat.le_trans HBR.out.size hC.size) (H2.out.below (HBR.out.trans (hC.mono HBR.out.size))) hc2 hm2 hn2
      rw [HCS.out] at hcon
      refine hcon.mono ?_
      clear hcon
      rintro en w16 ⟨rfl, hbn⟩
      replace HS9 := Lib.hid (own_ext HS9.out hbn)
      replace HZ6 := Lib.hid (Nat.le_trans HZ6.out hbn.size)
      replace Kg11 := Lib.hid (Kg11.out.below hbn Kg11.out.lt)
      replace HS13 := Lib.hid (own_ext HS13.out hbn)
      replace Kg15 := Lib.hid (Kg15.out.below hbn Kg15.out.lt)
      replace HS17 := Lib.hid (own_ext HS17.out hbn)
      replace HS19 := Lib.hid (own_ext HS19.out hbn)
      replace hC := hC.trans (hbn.mono hC.size)
      clear hbn
      go_wp2_with fail
      refine (jsame_any w16 m S).mono ?_
      rintro en w17 ⟨rfl, hbn⟩
      replace HS9 := Lib.hid (own_ext HS9.out hbn)
      replace HZ6 := Lib.hid (Nat.le_trans HZ6.out hbn.size)
      replace Kg11 := Lib.hid (Kg11.out.below hbn Kg11.out.lt)
      replace HS13 := Lib.hid (own_ext HS13.out hbn)
      replace Kg15 := Lib.hid (Kg15.out.below hbn Kg15.out.lt)
      replace HS17 := Lib.hid (own_ext HS17.out hbn)
      replace HS19 := Lib.hid (own_ext HS19.out hbn)
      replace hC := hC.trans (hbn.mono hC.size)
      clear hbn tk te tj
      go_wp2_with fail
      refine (spoil_any w17 D9 pl c9 (byts PB) wr.heap.size 5 HS9.out (by omega)).mono ?_
      rintro en w18 ⟨rfl, hgr, hbn⟩
      have HX17 := Lib.hid (own_apart HS17.out hgr HS9a.out (Nat.le_refl _))
      replace hC := hC.trans hbn
      clear hgr hbn
      go_wp2_with fail
      refine (spoil_any w18 D17 jl c17 (byts JB) w6.heap.size 5 HX17.out (by omega)).mono ?_
      rintro en w19 ⟨rfl, _, hbn⟩
      replace hC := hC.trans (hbn.mono HZA.out)
      have hx := HXX.out.trans (hC.mono HXX.out.size)
      clear hbn hC
      go_wp2_with fail
      go_roundw
      case rel => exact ⟨t + 1, by omega, by go_num, hx⟩
      case measure => simp [intOf] <;> omega
    · have d : decide ((t : Int) < 2) = false := by simp; omega
      go_wp2_with fail
      refine (same_any wr A n cap b D7 n c7 b w.heap.size wr.heap.size HBR.out.size (Nat.le_refl _) (H.out.below HBR.out) (Rd.of_own (own_ext HOWN.out HXX.out)) (by omega) (by omega) true (by simp)).mono ?_
      rintro en w20 ⟨rfl, hbn⟩
      have hb := HBR.out.trans (hbn.mono HBR.out.size)
      clear hbn
      go_wp2_with fail
      refine (jworks_any _).mono ?_
      rintro en wz ⟨rfl, hbz⟩
      replace hb := hb.trans (hbz.mono hb.size)
      go_wp2_with fail
      go_ret
      exact ⟨rfl, hb⟩

set_option maxRecDepth 100000 in
set_option maxHeartbeats 20000000 in
theorem jappends_long (w : World) (A : Option Addr) (n cap : Nat) (b : List UInt8) (h : Rd w w.heap.size 1 A n (byts b)) (hc : n ≤ cap) (hm : cap ≤ maxLen) (A2 : Option Addr) (m cap2 : Nat) (p : List UInt8) (h2 : Rd w w.heap.size 1 A2 m (byts p)) (hc2 : m ≤ cap2) (hm2 : cap2 ≤ maxLen) (hn2 : m ≤ 140737488351232) (A3 : Option Addr) (N cap3 : Nat) (ls : List (List UInt8)) (h3 : RdRows w w.heap.size A3 N ls) (hN : N ≤ 9223372036854775807) (hn : n ≤ 1500) (hp : 65535 < m) (hr : decide ((∀ a (ha : a < ls.length), a < 11 → ls[a].length ≤ 200) ∧ N ≤ 10) = true) :
    Calls Try.prog 9 #[.slice A n cap, .slice A2 m cap2, .slice A3 N cap3] w fun en w' => en = .returned (.bool true) ∧ Below w.heap.size w w' := by
  have HL := Lib.hid h.blen
  have HL3 := Lib.hid h3.1
  have H := Lib.hid h
  have H2 := Lib.hid h2
  have H3 := Lib.hid h3
  have hb : Below w.heap.size w w := Below.refl _ _
  clear h h2 h3
  have HR := Lib.hid hr
  have d1 : decide ((1500 : Int) < (n : Int)) = false := by simp; omega
  have d2 : decide ((200 : Int) < (m : Int)) = true := by simp; omega
  have d3 : decide ((m : Int) ≤ 65535) = false := by simp; omega
  clear hr
  have hfew := of_decide_eq_true HR.out
  have hN10 : N ≤ 10 := hfew.2
  have HLS := Lib.hid (show ∀ l ∈ ls, l.length ≤ 140737488351232 from fun l hl => by obtain ⟨a, ha, rfl⟩ := List.getElem_of_mem hl; have := hfew.1 a ha (by have := HL3.out; omega); omega)
  have hjl := Jou.jjoin_le (Jou.frs ls)
  have hpl := Jou.appB_le b p
  rw [Jou.frs_length, HL3.out] at hjl
  rw [HL.out] at hpl
  obtain ⟨PB, hPB⟩ : ∃ x, Jou.appB b p = x := ⟨_, rfl⟩
  obtain ⟨pl, hpl0⟩ : ∃ x, PB.length = x := ⟨_, rfl⟩
  obtain ⟨pk, hpk⟩ : ∃ x, Jou.appK b p = x := ⟨_, rfl⟩
  obtain ⟨pn, hpn⟩ : ∃ x, Jou.appN p = x := ⟨_, rfl⟩
  obtain ⟨ps, hps⟩ : ∃ x, Jou.appS p = x := ⟨_, rfl⟩
  obtain ⟨pe, hpe⟩ : ∃ x, Jou.appE p = x := ⟨_, rfl⟩
  obtain ⟨JB, hJB⟩ : ∃ x, Fra.joinB (Jou.frs ls) = x := ⟨_, rfl⟩
  obtain ⟨jl, hjl0⟩ : ∃ x, JB.length = x := ⟨_, rfl⟩
  obtain ⟨je, hje⟩ : ∃ x, Fra.joinE (Jou.frs ls) = x := ⟨_, rfl⟩
  obtain ⟨S, hS⟩ : ∃ x, Crc.update 0 p = x := ⟨_, rfl⟩
  rw [hPB, hpl0] at hpl
  rw [hJB, hjl0] at hjl
  have HAB := Lib.hid hPB
  have HAL := Lib.hid hpl0
  have HAK := Lib.hid hpk
  have HAN := Lib.hid hpn
  have HAS := Lib.hid hps
  have HAE := Lib.hid hpe
  have HJB := Lib.hid hJB
  have HJL := Lib.hid hjl0
  have HJE := Lib.hid hje
  have HCS := Lib.hid hS
  clear hPB hpl0 hpk hpn hps hpe hJB hjl0 hje hS hfew
  go_enter Try.func9, Try.ntmps9
  go_wp2_with fail
  refine (jfew_any w A3 N cap3 ls w.heap.size H3.out hN true HR.out).mono ?_
  rintro en w1 ⟨rfl, rfl⟩
  go_wp2_with fail
  have hcon := own_any w A n cap b w.heap.size H.out (by omega)
  rw [HL.out] at hcon
  refine hcon.mono ?_
  clear hcon
  rintro en w5 ⟨D7, c7, rfl, ho5, hb5⟩
  have HOWN := Lib.hid ho5
  have HC7 := Lib.hid (own_cap ho5)
  have HB5 := Lib.hid hb5
  clear ho5 hb5 hb
  go_wp2_with fail
  go_loopw [8] (fun t wr => ∃ k : Nat, k ≤ 2 ∧ t = .int .i64 k ∧ Below w5.heap.size w5 wr) (fun t _ => 2 - (intOf t).toNat)
  case atStart => exact ⟨0, by omega, rfl, Below.refl _ _⟩
  case round =>
    obtain ⟨t, ht, rfl, hx⟩ := hrel
    have HBR := Lib.hid (HB5.out.trans (hx.mono HB5.out.size))
    have HXX := Lib.hid hx
    clear hx
    by_cases hlt : t < 2
    · have d : decide ((t : Int) < 2) = true := by simp; omega
      go_wp2_with fail
      have hC : Below wr.heap.size wr wr := Below.refl _ _
      have hcon := japp_any wr A n cap b w.heap.size HBR.out.size (H.out.below HBR.out) hc hm (by omega) A2 m cap2 p (H2.out.below HBR.out) hc2 hm2 hn2
      unfold AppP at hcon
      rw [HAB.out, HAL.out, HAK.out, HAN.out, HAS.out, HAE.out] at hcon
      refine hcon.mono ?_
      clear hcon
      rintro en w6 ⟨D9, c9, rfl, ho, hbn⟩
      have HS9 := Lib.hid ho
      have HS9a := Lib.hid ho
      have HZ6 := Lib.hid (Nat.le_refl w6.heap.size)
      have HZA := Lib.hid hbn.size
      replace hC := hC.trans (hbn.mono hC.size)
      clear ho hbn
      go_wp2_with fail
      have kn := Whole.new w6 73 #[.int .u64 (pn : Nat), .int .u64 (ps : Nat)]
      have hbn := below1 w6 (.cells #[.int .u64 (pn : Nat), .int .u64 (ps : Nat)] 73)
      replace HS9 := Lib.hid (own_ext HS9.out hbn)
      replace HZ6 := Lib.hid (Nat.le_trans HZ6.out hbn.size)
      replace hC := hC.trans (hbn.mono hC.size)
      obtain ⟨g11, hgg⟩ : ∃ g, w6.heap.size = g := ⟨_, rfl⟩
      rw [hgg] at kn ⊢
      have Kg11 := Lib.hid kn
      clear kn hgg hbn
      generalize World.alloc w6 (.cells #[.int .u64 (pn : Nat), .int .u64 (ps : Nat)] 73) = w7 at Kg11 HS9 HZ6 hC ⊢
      have hcon := rjapp_any w7 D7 n c7 b w7.heap.size (Nat.le_refl _) ((Rd.of_own (own_ext HOWN.out (HXX.out.trans (hC.mono HXX.out.size))))) HC7.out.1 (by omega) A2 m cap2 p ((H2.out.below (HBR.out.trans (hC.mono HBR.out.size))).more (Nat.le_trans HBR.out.size hC.size)) hc2 hm2 hn2
      unfold AppP at hcon
      rw [HAB.out, HAL.out, HAK.out, HAN.out, HAS.out, HAE.out] at hcon
      refine hcon.mono ?_
      clear hcon
      rintro en w8 ⟨D13, c13, rfl, ho, hbn⟩
      have HS13 := Lib.hid ho
      replace HS9 := Lib.hid (own_ext HS9.out hbn)
      replace HZ6 := Lib.hid (Nat.le_trans HZ6.out hbn.size)
      replace Kg11 := Lib.hid (Kg11.out.below hbn Kg11.out.lt)
      replace hC := hC.trans (hbn.mono hC.size)
      clear ho hbn
      go_wp2_with fail
      have kn := Whole.new w8 76 #[.int .u64 (pn : Nat), .int .u64 (ps : Nat)]
      have hbn := below1 w8 (.cells #[.int .u64 (pn : Nat), .int .u64 (ps : Nat)] 76)
      replace HS9 := Lib.hid (own_ext HS9.out hbn)
      replace HZ6 := Lib.hid (Nat.le_trans HZ6.out hbn.size)
      replace Kg11 := Lib.hid (Kg11.out.below hbn Kg11.out.lt)
      replace HS13 := Lib.hid (own_ext HS13.out hbn)
      replace hC := hC.trans (hbn.mono hC.size)
      obtain ⟨g15, hgg⟩ : ∃ g, w8.heap.size = g := ⟨_, rfl⟩
      rw [hgg] at kn ⊢
      have Kg15 := Lib.hid kn
      clear kn hgg hbn
      generalize World.alloc w8 (.cells #[.int .u64 (pn : Nat), .int .u64 (ps : Nat)] 76) = w9 at Kg15 HS9 HZ6 Kg11 HS13 hC ⊢
      have hcon := jput_any w9 A3 N cap3 ls w.heap.size (Nat.le_trans HBR.out.size hC.size) (H3.out.below (HBR.out.trans (hC.mono HBR.out.size))) (by omega) HLS.out
      unfold BytP at hcon
      rw [HJB.out, HJL.out, HJE.out] at hcon
      refine hcon.mono ?_
      clear hcon
      rintro en w10 ⟨D17, c17, rfl, ho, hbn⟩
      have HS17 := Lib.hid (own_base ho HZ6.out)
      replace HS9 := Lib.hid (own_ext HS9.out hbn)
      replace HZ6 := Lib.hid (Nat.le_trans HZ6.out hbn.size)
      replace Kg11 := Lib.hid (Kg11.out.below hbn Kg11.out.lt)
      replace HS13 := Lib.hid (own_ext HS13.out hbn)
      replace Kg15 := Lib.hid (Kg15.out.below hbn Kg15.out.lt)
      replace hC := hC.trans (hbn.mono hC.size)
      clear ho hbn
      go_wp2_with fail
      have hcon := rjput_any w10 A3 N cap3 ls w.heap.size (Nat.le_trans HBR.out.size hC.size) (H3.out.below (HBR.out.trans (hC.mono HBR.out.size))) (by omega) HLS.out
      unfold BytP at hcon
      rw [HJB.out, HJL.out, HJE.out] at hcon
      refine hcon.mono ?_
      clear hcon
      rintro en w11 ⟨D19, c19, rfl, ho, hbn⟩
      have HS19 := Lib.hid ho
      replace HS9 := Lib.hid (own_ext HS9.out hbn)
      replace HZ6 := Lib.hid (Nat.le_trans HZ6.out hbn.size)
      replace Kg11 := Lib.hid (Kg11.out.below hbn Kg11.out.lt)
      replace HS13 := Lib.hid (own_ext HS13.out hbn)
      replace Kg15 := Lib.hid (Kg15.out.below hbn Kg15.out.lt)
      replace HS17 := Lib.hid (own_ext HS17.out hbn)
      replace hC := hC.trans (hbn.mono hC.size)
      clear ho hbn
      have tk : (((pk : Nat) : Int) != (pk : Int)) = false := by simp
      have te : (((pe : Nat) : Int) != (pe : Int)) = false := by simp
      have tj : (((je : Nat) : Int) != (je : Int)) = false := by simp
      go_wp2_with fail
      refine (same_any w11 D9 pl c9 PB D13 pl c13 PB w11.heap.size w11.heap.size (Nat.le_refl _) (Nat.le_refl _) (Rd.of_own HS9.out) (Rd.of_own HS13.out) (by omega) (by omega) true (by simp)).mono ?_
      rintro en w12 ⟨rfl, hbn⟩
      replace HS9 := Lib.hid (own_ext HS9.out hbn)
      replace HZ6 := Lib.hid (Nat.le_trans HZ6.out hbn.size)
      replace Kg11 := Lib.hid (Kg11.out.below hbn Kg11.out.lt)
      replace HS13 := Lib.hid (own_ext HS13.out hbn)
      replace Kg15 := Lib.hid (Kg15.out.below hbn Kg15.out.lt)
      replace HS17 := Lib.hid (own_ext HS17.out hbn)
      replace HS19 := Lib.hid (own_ext HS19.out hbn)
      replace hC := hC.trans (hbn.mono hC.size)
      clear hbn
      have ag110 := Kg11.out.cell 0
      have ag111 := Kg11.out.cell 1
      have lg11 := Kg11.out.lt
      simp at ag110 ag111
      have ag150 := Kg15.out.cell 0
      have ag151 := Kg15.out.cell 1
      have lg15 := Kg15.out.lt
      simp at ag150 ag151
      go_wp2_with fail
      clear ag110 ag111 lg11 ag150 ag151 lg15
      refine (jsame_any w12 pn ps).mono ?_
      rintro en w13 ⟨rfl, hbn⟩
      replace HS9 := Lib.hid (own_ext HS9.out hbn)
      replace HZ6 := Lib.hid (Nat.le_trans HZ6.out hbn.size)
      replace Kg11 := Lib.hid (Kg11.out.below hbn Kg11.out.lt)
      replace HS13 := Lib.hid (own_ext HS13.out hbn)
      replace Kg15 := Lib.hid (Kg15.out.below hbn Kg15.out.lt)
      replace HS17 := Lib.hid (own_ext HS17.out hbn)
      replace HS19 := Lib.hid (own_ext HS19.out hbn)
      replace hC := hC.trans (hbn.mono hC.size)
      clear hbn
      go_wp2_with fail
      refine (same_any w13 D17 jl c17 JB D19 jl c19 JB w13.heap.size w13.heap.size (Nat.le_refl _) (Nat.le_refl _) (Rd.of_own HS17.out) (Rd.of_own HS19.out) (by omega) (by omega) true (by simp)).mono ?_
      rintro en w14 ⟨rfl, hbn⟩
      replace HS9 := Lib.hid (own_ext HS9.out hbn)
      replace HZ6 := Lib.hid (Nat.le_trans HZ6.out hbn.size)
      replace Kg11 := Lib.hid (Kg11.out.below hbn Kg11.out.lt)
      replace HS13 := Lib.hid (own_ext HS13.out hbn)
      replace Kg15 := Lib.hid (Kg15.out.below hbn Kg15.out.lt)
      replace HS17 := Lib.hid (own_ext HS17.out hbn)
      replace HS19 := Lib.hid (own_ext HS19.out hbn)
      replace hC := hC.trans (hbn.mono hC.size)
      clear hbn
      go_wp2_with fail
      have hcon := jof_any w14 A2 m cap2 p w.heap.size (Nat.le_trans HBR.out.size hC.size) (H2.out.below (HBR.out.trans (hC.mono HBR.out.size))) hc2 hm2 hn2
      rw [HCS.out] at hcon
      refine hcon.mono ?_
      clear hcon
      rintro en w15 ⟨rfl, hbn⟩
      replace HS9 := Lib.hid (own_ext HS9.out hbn)
      replace HZ6 := Lib.hid (Nat.le_trans HZ6.out hbn.size)
      replace Kg11 := Lib.hid (Kg11.out.below hbn Kg11.out.lt)
      replace HS13 := Lib.hid (own_ext HS13.out hbn)
      replace Kg15 := Lib.hid (Kg15.out.below hbn Kg15.out.lt)
      replace HS17 := Lib.hid (own_ext HS17.out hbn)
      replace HS19 := Lib.hid (own_ext HS19.out hbn)
      replace hC := hC.trans (hbn.mono hC.size)
      clear hbn
      go_wp2_with fail
      have hcon := rjof_any w15 A2 m cap2 p w.heap.size (Nat.le_trans HBR.out.size hC.size) (H2.out.below (HBR.out.trans (hC.mono HBR.out.size))) hc2 hm2 hn2
      rw [HCS.out] at hcon
      refine hcon.mono ?_
      clear hcon
      rintro en w16 ⟨rfl, hbn⟩
      replace HS9 := Lib.hid (own_ext HS9.out hbn)
      replace HZ6 := Lib.hid (Nat.le_trans HZ6.out hbn.size)
      replace Kg11 := Lib.hid (Kg11.out.below hbn Kg11.out.lt)
      replace HS13 := Lib.hid (own_ext HS13.out hbn)
      replace Kg15 := Lib.hid (Kg15.out.below hbn Kg15.out.lt)
      replace HS17 := Lib.hid (own_ext HS17.out hbn)
      replace HS19 := Lib.hid (own_ext HS19.out hbn)
      replace hC := hC.trans (hbn.mono hC.size)
      clear hbn
      go_wp2_with fail
      refine (jsame_any w16 m S).mono ?_
      rintro en w17 ⟨rfl, hbn⟩
      replace HS9 := Lib.hid (own_ext HS9.out hbn)
      replace HZ6 := Lib.hid (Nat.le_trans HZ6.out hbn.size)
      replace Kg11 := Lib.hid (Kg11.out.below hbn Kg11.out.lt)
      replace HS13 := Lib.hid (own_ext HS13.out hbn)
      replace Kg15 := Lib.hid (Kg15.out.below hbn Kg15.out.lt)
      replace HS17 := Lib.hid (own_ext HS17.out hbn)
      replace HS19 := Lib.hid (own_ext HS19.out hbn)
      replace hC := hC.trans (hbn.mono hC.size)
      clear hbn tk te tj
      go_wp2_with fail
      refine (spoil_any w17 D9 pl c9 (byts PB) wr.heap.size 5 HS9.out (by omega)).mono ?_
      rintro en w18 ⟨rfl, hgr, hbn⟩
      have HX17 := Lib.hid (own_apart HS17.out hgr HS9a.out (Nat.le_refl _))
      replace hC := hC.trans hbn
      clear hgr hbn
      go_wp2_with fail
      refine (spoil_any w18 D17 jl c17 (byts JB) w6.heap.size 5 HX17.out (by omega)).mono ?_
      rintro en w19 ⟨rfl, _, hbn⟩
      replace hC := hC.trans (hbn.mono HZA.out)
      have hx := HXX.out.trans (hC.mono HXX.out.size)
      clear hbn hC
      go_wp2_with fail
      go_roundw
      case rel => exact ⟨t + 1, by omega, by go_num, hx⟩
      case measure => simp [intOf] <;> omega
    · have d : decide ((t : Int) < 2) = false := by simp; omega
      go_wp2_with fail
      refine (same_any wr A n cap b D7 n c7 b w.heap.size wr.heap.size HBR.out.size (Nat.le_refl _) (H.out.below HBR.out) (Rd.of_own (own_ext HOWN.out HXX.out)) (by omega) (by omega) true (by simp)).mono ?_
      rintro en w20 ⟨rfl, hbn⟩
      have hb := HBR.out.trans (hbn.mono HBR.out.size)
      clear hbn
      go_wp2_with fail
      refine (jworks_any _).mono ?_
      rintro en wz ⟨rfl, hbz⟩
      replace hb := hb.trans (hbz.mono hb.size)
      go_wp2_with fail
      go_ret
      exact ⟨rfl, hb⟩

set_option maxRecDepth 100000 in
set_option maxHeartbeats 4000000 in
theorem jappends_bad1 (w : World) (A : Option Addr) (n cap : Nat) (A2 : Option Addr) (m cap2 : Nat) (A3 : Option Addr) (N cap3 : Nat) (hn : 1500 < n) :
    Calls Try.prog 9 #[.slice A n cap, .slice A2 m cap2, .slice A3 N cap3] w fun en w' => en = .returned (.bool true) ∧ Below w.heap.size w w' := by
  have hb : Below w.heap.size w w := Below.refl _ _
  have d1 : decide ((1500 : Int) < (n : Int)) = true := by simp; omega
  go_enter Try.func9, Try.ntmps9
  go_wp2_with fail
  refine (jworks_any _).mono ?_
  rintro en wz ⟨rfl, hbz⟩
  replace hb := hb.trans (hbz.mono hb.size)
  go_wp2_with fail
  go_ret
  exact ⟨rfl, hb⟩

set_option maxRecDepth 100000 in
set_option maxHeartbeats 4000000 in
theorem jappends_bad2 (w : World) (A : Option Addr) (n cap : Nat) (A2 : Option Addr) (m cap2 : Nat) (A3 : Option Addr) (N cap3 : Nat) (hn : n ≤ 1500) (hp1 : 200 < m) (hp2 : m ≤ 65535) :
    Calls Try.prog 9 #[.slice A n cap, .slice A2 m cap2, .slice A3 N cap3] w fun en w' => en = .returned (.bool true) ∧ Below w.heap.size w w' := by
  have hb : Below w.heap.size w w := Below.refl _ _
  have d1 : decide ((1500 : Int) < (n : Int)) = false := by simp; omega
  have d2 : decide ((200 : Int) < (m : Int)) = true := by simp; omega
  have d3 : decide ((m : Int) ≤ 65535) = true := by simp; omega
  go_enter Try.func9, Try.ntmps9
  go_wp2_with fail
  refine (jworks_any _).mono ?_
  rintro en wz ⟨rfl, hbz⟩
  replace hb := hb.trans (hbz.mono hb.size)
  go_wp2_with fail
  go_ret
  exact ⟨rfl, hb⟩

set_option maxRecDepth 100000 in
set_option maxHeartbeats 4000000 in
theorem jappends_bad3 (w : World) (A : Option Addr) (n cap : Nat) (A2 : Option Addr) (m cap2 : Nat) (A3 : Option Addr) (N cap3 : Nat) (ls : List (List UInt8)) (h3 : RdRows w w.heap.size A3 N ls) (hN : N ≤ 9223372036854775807) (hn : n ≤ 1500) (hp : m ≤ 200) (hr : decide ((∀ a (ha : a < ls.length), a < 11 → ls[a].length ≤ 200) ∧ N ≤ 10) = false) :
    Calls Try.prog 9 #[.slice A n cap, .slice A2 m cap2, .slice A3 N cap3] w fun en w' => en = .returned (.bool true) ∧ Below w.heap.size w w' := by
  have hb : Below w.heap.size w w := Below.refl _ _
  have H3 := Lib.hid h3
  have HR := Lib.hid hr
  clear h3 hr
  have d1 : decide ((1500 : Int) < (n : Int)) = false := by simp; omega
  have d2 : decide ((200 : Int) < (m : Int)) = false := by simp; omega
  go_enter Try.func9, Try.ntmps9
  go_wp2_with fail
  refine (jfew_any w A3 N cap3 ls w.heap.size H3.out hN false HR.out).mono ?_
  rintro en w1 ⟨rfl, rfl⟩
  go_wp2_with fail
  refine (jworks_any _).mono ?_
  rintro en wz ⟨rfl, hbz⟩
  replace hb := hb.trans (hbz.mono hb.size)
  go_wp2_with fail
  go_ret
  exact ⟨rfl, hb⟩

set_option maxRecDepth 100000 in
set_option maxHeartbeats 4000000 in
theorem jappends_bad4 (w : World) (A : Option Addr) (n cap : Nat) (A2 : Option Addr) (m cap2 : Nat) (A3 : Option Addr) (N cap3 : Nat) (ls : List (List UInt8)) (h3 : RdRows w w.heap.size A3 N ls) (hN : N ≤ 9223372036854775807) (hn : n ≤ 1500) (hp : 65535 < m) (hr : decide ((∀ a (ha : a < ls.length), a < 11 → ls[a].length ≤ 200) ∧ N ≤ 10) = false) :
    Calls Try.prog 9 #[.slice A n cap, .slice A2 m cap2, .slice A3 N cap3] w fun en w' => en = .returned (.bool true) ∧ Below w.heap.size w w' := by
  have hb : Below w.heap.size w w := Below.refl _ _
  have H3 := Lib.hid h3
  have HR := Lib.hid hr
  clear h3 hr
  have d1 : decide ((1500 : Int) < (n : Int)) = false := by simp; omega
  have d2 : decide ((200 : Int) < (m : Int)) = true := by simp; omega
  have d3 : decide ((m : Int) ≤ 65535) = false := by simp; omega
  go_enter Try.func9, Try.ntmps9
  go_wp2_with fail
  refine (jfew_any w A3 N cap3 ls w.heap.size H3.out hN false HR.out).mono ?_
  rintro en w1 ⟨rfl, rfl⟩
  go_wp2_with fail
  refine (jworks_any _).mono ?_
  rintro en wz ⟨rfl, hbz⟩
  replace hb := hb.trans (hbz.mono hb.size)
  go_wp2_with fail
  go_ret
  exact ⟨rfl, hb⟩

theorem journalAppends_any (w : World) (A : Option Addr) (n cap : Nat) (b : List UInt8) (h : Rd w w.heap.size 1 A n (byts b)) (hc : n ≤ cap) (hm : cap ≤ maxLen) (A2 : Option Addr) (m cap2 : Nat) (p : List UInt8) (h2 : Rd w w.heap.size 1 A2 m (byts p)) (hc2 : m ≤ cap2) (hm2 : cap2 ≤ maxLen) (hn2 : m ≤ 140737488351232) (A3 : Option Addr) (N cap3 : Nat) (ls : List (List UInt8)) (h3 : RdRows w w.heap.size A3 N ls) (hN : N ≤ 9223372036854775807) :
    Calls Try.prog 9 #[.slice A n cap, .slice A2 m cap2, .slice A3 N cap3] w fun en w' => en = .returned (.bool true) ∧ Below w.heap.size w w' := by
  by_cases hn : n ≤ 1500
  · obtain ⟨r, hr⟩ : ∃ r, decide ((∀ a (ha : a < ls.length), a < 11 → ls[a].length ≤ 200) ∧ N ≤ 10) = r := ⟨_, rfl⟩
    by_cases hp : m ≤ 200
    · cases r
      · exact jappends_bad3 w A n cap A2 m cap2 A3 N cap3 ls h3 hN hn hp hr
      · exact jappends_short w A n cap b h hc hm A2 m cap2 p h2 hc2 hm2 hn2 A3 N cap3 ls h3 hN hn hp hr
    · by_cases hp2 : m ≤ 65535
      · exact jappends_bad2 w A n cap A2 m cap2 A3 N cap3 hn (by omega) hp2
      · cases r
        · exact jappends_bad4 w A n cap A2 m cap2 A3 N cap3 ls h3 hN hn (by omega) hr
        · exact jappends_long w A n cap b h hc hm A2 m cap2 p h2 hc2 hm2 hn2 A3 N cap3 ls h3 hN hn (by omega) hr
  · exact jappends_bad1 w A n cap A2 m cap2 A3 N cap3 (by omega)

end Go.Proofs.Ytnncohajlmbedaa
