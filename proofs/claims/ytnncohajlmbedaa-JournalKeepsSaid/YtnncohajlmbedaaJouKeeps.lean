/-
  The walk of JournalKeeps: it returns true.
-/
import Derived.Test.YtnncohajlmbedaaJouKeepLaw
import Derived.Test.YtnncohajlmbedaaJouAppends
import Derived.Test.YtnncohajlmbedaaFraBits
namespace Go.Proofs.Ytnncohajlmbedaa
open Go.RowKit
theorem intsE : ElemOK Try.prog 85 3 1 8 := ElemOK.mk_ (z := .int .i64 0) Try.underlying85 (by kernel_rfl) rfl (by omega)
theorem refsE : ElemOK Try.prog 86 73 2 16 := ElemOK.mk_ (z := .agg #[.int .u64 0, .int .u64 0]) Try.underlying86 (by kernel_rfl) rfl (by omega)
theorem keep_ne : 3 ≠ 5 ∧ 3 ≠ 73 ∧ 5 ≠ 73 := by decide
/-- The places of payloads, and what tells them. -/
def plcs (l : List (List UInt8)) (j : Nat) : List Value := (List.range j).map fun i => .int .i64 ((Jou.cat (l.take i)).length : Nat)
def rfs (l : List (List UInt8)) : List Value := l.flatMap fun p => [.int .u64 (p.length : Nat), .int .u64 (Crc.update 0 p : Nat)]
theorem plcs_succ (l : List (List UInt8)) (j : Nat) : plcs l (j + 1) = plcs l j ++ [.int .i64 ((Jou.cat (l.take j)).length : Nat)] := by unfold plcs; rw [List.range_succ, List.map_append]; rfl
theorem plcs_get (l : List (List UInt8)) {j i : Nat} (h : i < j) : (plcs l j)[i]? = some (.int .i64 ((Jou.cat (l.take i)).length : Nat)) := by unfold plcs; simp [h]
theorem rfs_snoc (l : List (List UInt8)) (p : List UInt8) : rfs (l ++ [p]) = rfs l ++ [.int .u64 (p.length : Nat), .int .u64 (Crc.update 0 p : Nat)] := by unfold rfs; rw [List.flatMap_append]; simp
theorem rfs_get : ∀ (l : List (List UInt8)) (i : Nat) (h : i < l.length), (rfs l)[i * 2]? = some (.int .u64 (l[i].length : Nat)) ∧ (rfs l)[i * 2 + 1]? = some (.int .u64 (Crc.update 0 l[i] : Nat))
  | p :: l, 0, _ => by unfold rfs; simp
  | p :: l, i + 1, h => by
    have h1 := rfs_get l i (by simpa using h)
    have e : rfs (p :: l) = [.int .u64 (p.length : Nat), .int .u64 (Crc.update 0 p : Nat)] ++ rfs l := by unfold rfs; rw [List.flatMap_cons]
    rw [e, show (i + 1) * 2 = i * 2 + 2 by omega, show i * 2 + 2 + 1 = i * 2 + 1 + 2 by omega]
    simp only [List.cons_append, List.nil_append, List.getElem?_cons_succ, List.getElem_cons_succ]
    exact h1
/-- Bytes in memory of their own, and an error. -/
def GSpec.tup (base : Nat) (te : TypeId) (m : Nat) (bd : List UInt8) (x : Nat) : GSpec :=
  ⟨Option Addr × Nat, (none, 0), fun y => .tuple #[.slice y.1 m y.2, .int .i64 (x : Nat)], fun _ _ y w => w.ownsRow base te 1 (.slice y.1 m y.2) m (byts bd), fun _ _ _ _ => rfl, fun _ _ _ _ _ h q => own_ext h q⟩
/-- Rows of bytes in memory of their own. -/
def GSpec.rws (base : Nat) (tr te : TypeId) (N : Nat) (ls : List (List UInt8)) : GSpec :=
  ⟨Option Addr × Nat, (none, 0), fun y => .slice y.1 N y.2, fun _ _ y w => ∃ vs, w.ownsRow base tr 1 (.slice y.1 N y.2) N vs ∧ OwnRows w base te ls vs, fun _ _ _ _ => rfl, fun _ _ _ _ _ h q => by obtain ⟨vs, h1, h2⟩ := h; exact ⟨vs, own_ext h1 q, h2.ext q⟩⟩
theorem RdRows.upto {w : World} {B N : Nat} {A : Option Addr} {ls : List (List UInt8)} (h : RdRows w B A N ls) {j : Nat} (hj : j ≤ N) : RdRows w B A j (ls.take j) := by
  have hl := h.1
  refine ⟨by rw [List.length_take]; omega, fun k hk => ?_⟩
  obtain ⟨b, o, A', m, c, e, hb, hc, h1, h2, hr⟩ := h.2 k (by omega)
  have hg : (ls.take j).getD k [] = ls.getD k [] := by
    rw [List.getD_eq_getElem?_getD, List.getD_eq_getElem?_getD, List.getElem?_take, if_pos hk]
  rw [hg]
  exact ⟨b, o, A', m, c, e, hb, hc, h1, h2, hr⟩
theorem own_older {w0 w w' : World} {base s n B : Nat} {te : TypeId} {v : Value} {xs : List Value} (h0 : w0.ownsRow base te s v n xs) (h : w.ownsRow base te s v n xs) (hb : Below B w w') (hz : w0.heap.size ≤ B) : w'.ownsRow base te s v n xs := by
  refine ⟨h.1, h.2.imp id ?_⟩
  rintro ⟨g, cap, cur, rfl, hg, hh, hr⟩
  have hlt : g < w0.heap.size := by
    rcases h0.2 with ⟨e, _⟩ | ⟨g', cap', cur', e, _, hh', _⟩
    · cases e
    · injection e with e
      injection e with e
      injection e with e
      subst e
      exact Whole.lt (show Whole w0 g te cur' from hh')
  exact ⟨g, cap, cur, rfl, hg, (hb.block g (by omega)).trans hh, hr⟩
theorem one_u64s (a b : Int) : ∀ u ∈ [Value.int .u64 a, .int .u64 b], u.oneCell' = true := by
  intro u hu
  simp at hu
  rcases hu with rfl | rfl <;> rfl
theorem one_i64 (a : Int) : ∀ u ∈ [Value.int .i64 a], u.oneCell' = true := by
  intro u hu
  simp at hu
  subst hu
  rfl
attribute [local go_sem] match_undef Oper.growAt Oper.growUpon GSpec.fix GSpec.row GSpec.wh GSpec.own GSpec.tup GSpec.rws
attribute [local irreducible] wpList

set_option maxRecDepth 100000 in
set_option maxHeartbeats 20000000 in
theorem journalKeeps_good (w : World) (A : Option Addr) (N cap : Nat) (ls : List (List UInt8)) (h : RdRows w w.heap.size A N ls) (hc : N ≤ cap) (hN : N ≤ 9223372036854775807) (z : Int) (A2 : Option Addr) (m2 cap2 : Nat) (tl : List UInt8) (h2 : Rd w w.heap.size 1 A2 m2 (byts tl)) (hm2 : m2 ≤ 100) (hr : decide ((∀ a (ha : a < ls.length), a < 11 → ls[a].length ≤ 200) ∧ N ≤ 10) = true) :
    Calls Try.prog 10 #[.slice A N cap, .int .i64 z, .slice A2 m2 cap2] w fun en w' => en = .returned (.bool true) ∧ Below w.heap.size w w' := by
  have HL3 := Lib.hid h.1
  have HL2 := Lib.hid h2.blen
  have H := Lib.hid h
  have H2 := Lib.hid h2
  have hb : Below w.heap.size w w := Below.refl _ _
  clear h h2
  have HR := Lib.hid hr
  have d0 : decide ((100 : Int) < (m2 : Int)) = false := by simp; omega
  have hfew := of_decide_eq_true hr
  have hN10 : N ≤ 10 := hfew.2
  have HLS := Lib.hid (show ∀ l ∈ ls, l.length ≤ 65535 from fun l hl => by obtain ⟨a, ha, rfl⟩ := List.getElem_of_mem hl; have := hfew.1 a ha (by have := HL3.out; omega); omega)
  obtain ⟨W, hW⟩ : ∃ W, Jou.cat ls = W := ⟨_, rfl⟩
  obtain ⟨L, hL⟩ : ∃ L, W.length = L := ⟨_, rfl⟩
  have hLB : L ≤ 655500 := by
    have h1 := Jou.jcat_le (Jou.frs ls) (fun j hj => by have hj2 : j < ls.length := by rw [Jou.frs_length] at hj; exact hj
                                                        rw [Jou.frs_get hj2]; exact HLS.out _ (List.getElem_mem hj2))
    rw [Jou.frs_length, HL3.out] at h1
    have h2 : (Fra.cat (Jou.frs ls)).length = L := by rw [← hL, ← hW]; rfl
    omega
  have HW := Lib.hid hW
  have HWL := Lib.hid hL
  clear hr hfew hW hL
  go_enter Try.func10, Try.ntmps10
  go_wp2_with fail
  refine (jfew_any w A N cap ls w.heap.size H.out hN true HR.out).mono ?_
  rintro en w1 ⟨rfl, rfl⟩
  go_wp2_with fail
  clear hb
  go_loopw [7, 8, 9, 10] (fun s pl rf i wr => ∃ (j X : Nat) (D : Option Addr) (c : Nat) (P : Option Addr) (cp : Nat) (R : Option Addr) (cr : Nat), j ≤ N ∧ s = .slice D X c ∧ pl = .slice P j cp ∧ rf = .slice R j cr ∧ i = .int .i64 j ∧ Hid ((Jou.cat (ls.take j)).length = X) ∧ Hid (wr.ownsRow w.heap.size 5 1 (.slice D X c) X (byts (Jou.cat (ls.take j)))) ∧ Hid (wr.ownsRow w.heap.size 3 1 (.slice P j cp) j (plcs ls j)) ∧ Hid (wr.ownsRow w.heap.size 73 2 (.slice R j cr) j (rfs (ls.take j))) ∧ Below w.heap.size w wr) (fun _ _ _ i _ => N - (intOf i).toNat)
  case atStart => exact ⟨0, 0, none, 0, none, 0, none, 0, by omega, rfl, rfl, rfl, rfl, Lib.hid (by simp [Jou.cat, Jou.frs, Fra.cat]), World.ownsRow_nil _ _ _ _, World.ownsRow_nil _ _ _ _, World.ownsRow_nil _ _ _ _, Below.refl _ _⟩
  case round =>
    obtain ⟨j, X, D, c, P, cp, R, cr, hj, rfl, rfl, rfl, rfl, HX, HS, HP, HRF, hb⟩ := hrel
    have hXL : X ≤ L := by
      have h1 := Jou.cat_mono ls (show j ≤ ls.length by have := HL3.out; omega)
      rw [List.take_of_length_le (Nat.le_refl _), HW.out, HWL.out, HX.out] at h1
      exact h1
    by_cases hlt : j < N
    · have hjl : j < ls.length := by have := HL3.out; omega
      obtain ⟨b1, o1, A1, m, c1, rfl, hb1, hc1, hm1, hm2, hr1⟩ := (H.out.below hb).2 j hlt
      have hg : ls.getD j [] = ls[j] := by simp [List.getD, hjl]
      rw [hg] at hr1
      have hap := Jou.app_at ls HLS.out hjl
      obtain ⟨p, hp⟩ : ∃ p, ls[j] = p := ⟨_, rfl⟩
      have hle := HLS.out ls[j] (List.getElem_mem hjl)
      rw [hp] at hr1 hap hle
      rw [hr1.blen] at hle hap
      obtain ⟨S, hS⟩ : ∃ S, Crc.update 0 p = S := ⟨_, rfl⟩
      obtain ⟨X2, hX2⟩ : ∃ X2, (Jou.cat (ls.take (j + 1))).length = X2 := ⟨_, rfl⟩
      rw [hS, HX.out] at hap
      obtain ⟨ap1, ap2, ap3, ap4, ap5⟩ := hap
      have HCAP := Lib.hid (own_cap HS.out)
      have happ := japp_any wr D X c (Jou.cat (ls.take j)) wr.heap.size (Nat.le_refl _) (Rd.of_own HS.out) HCAP.out.1 HCAP.out.2 (by omega) A1 m c1 p (hr1.more hb.size) hm1 hm2 (by omega)
      unfold AppP at happ
      rw [ap1, ap2, ap3, ap4, ap5, hX2] at happ
      have HAPP := Lib.hid happ
      have HM := Lib.hid hr1.blen
      have HPJ := Lib.hid hp
      have HSS := Lib.hid hS
      have HX2 := Lib.hid hX2
      have HTK := Lib.hid (show ls.take (j + 1) = ls.take j ++ [p] from by rw [List.take_succ_eq_append_getElem hjl, hp])
      have hlb := Nat.lt_of_lt_of_le hb1 hb.size
      have d : decide ((j : Int) < (N : Int)) = true := by simp; omega
      have d1 : (0 : Int) ≤ (j : Int) := by omega
      have d2 : (j : Int) < (N : Int) := by omega
      have tX : (((X : Nat) : Int) != (X : Int)) = false := by simp
      clear hg hp hle hS hX2 ap1 ap2 ap3 ap4 ap5 happ hr1 HCAP hb1
      go_wp2_with fail
      refine HAPP.out.mono ?_
      clear HAPP
      rintro en w2 ⟨D2, c2, rfl, ho2, hbn⟩
      have HS2 := Lib.hid (own_base ho2 hb.size)
      replace HP := Lib.hid (own_ext HP.out hbn)
      replace HRF := Lib.hid (own_ext HRF.out hbn)
      have HB2 := Lib.hid (hb.trans (hbn.mono hb.size))
      have k4 := (Whole.new w2 73 #[.int .u64 (m : Nat), .int .u64 (S : Nat)]).alloc (.cells #[.int .i64 (X : Nat)] 3)
      have hz4 : w.heap.size ≤ ((w2.alloc (.cells #[.int .u64 (m : Nat), .int .u64 (S : Nat)] 73)).alloc (.cells #[.int .i64 (X : Nat)] 3)).heap.size := by have := HB2.out.size; simp; omega
      have HN1 := Lib.hid (Rd.new1 (w2.alloc (.cells #[.int .u64 (m : Nat), .int .u64 (S : Nat)] 73)) 3 (.int .i64 (X : Nat)))
      rw [World.size_alloc] at HN1
      have HP4 := Lib.hid ((HP.out.alloc (.cells #[.int .u64 (m : Nat), .int .u64 (S : Nat)] 73)).alloc (.cells #[.int .i64 (X : Nat)] 3))
      have K4 := Lib.hid k4
      have HS4 := Lib.hid ((HS2.out.alloc (.cells #[.int .u64 (m : Nat), .int .u64 (S : Nat)] 73)).alloc (.cells #[.int .i64 (X : Nat)] 3))
      have HR4 := Lib.hid ((HRF.out.alloc (.cells #[.int .u64 (m : Nat), .int .u64 (S : Nat)] 73)).alloc (.cells #[.int .i64 (X : Nat)] 3))
      have HB4 := Lib.hid ((HB2.out.alloc HB2.out.size (.cells #[.int .u64 (m : Nat), .int .u64 (S : Nat)] 73)).alloc (by have := HB2.out.size; simp; omega) (.cells #[.int .i64 (X : Nat)] 3))
      clear ho2 hbn k4 hlb hc1 hb HS HP HRF HS2
      go_wp2_with (at_builtin; first
        | (refine wpList_append_rd _ rfl (.tmp 58) (.tmp 60) _ rfl intsE w.heap.size _ j _ rfl HP4.out _ (some ⟨w2.heap.size + 1, 0, none⟩) 1 1 _ rfl HN1.out (one_i64 _) (by unfold maxLen; omega) (by omega) hz4 ?_
           intro P5 cp5 w5 ho5 hb5 hg5 _
           have HP5 := Lib.hid ho5
           have HB5 := Lib.hid (HB4.out.trans hb5)
           have HS5 := Lib.hid (own_kept HS4.out hg5 HP4.out keep_ne.1.symm)
           have HR5 := Lib.hid (own_kept HR4.out hg5 HP4.out keep_ne.2.1.symm)
           have k5 := whole_apart K4.out hg5 HP4.out keep_ne.2.1.symm
           have x0 := k5.cell 0
           have x1 := k5.cell 1
           have xl := k5.lt
           simp at x0 x1
           have HN2 := Lib.hid (Rd.frame1 w5 73 (.int .u64 (m : Nat)) (.int .u64 (S : Nat)))
           have hz5 : w.heap.size ≤ (w5.alloc (.cells #[.int .u64 (m : Nat), .int .u64 (S : Nat)] 73)).heap.size := by have := HB5.out.size; simp; omega
           clear ho5 hb5 hg5 k5)
        | (refine wpList_append_rd _ rfl (.tmp 62) (.tmp 64) _ rfl refsE w.heap.size _ j _ rfl (HR5.out.alloc (.cells #[.int .u64 (m : Nat), .int .u64 (S : Nat)] 73)) _ (some ⟨w5.heap.size, 0, none⟩) 1 1 _ rfl HN2.out (one_u64s _ _) (by unfold maxLen; omega) (by omega) hz5 ?_
           intro R6 cr6 w6 ho6 hb6 hg6 _
           have HR6 := Lib.hid ho6
           have HB6 := Lib.hid ((HB5.out.alloc HB5.out.size (.cells #[.int .u64 (m : Nat), .int .u64 (S : Nat)] 73)).trans hb6)
           have HS6 := Lib.hid (own_kept (HS5.out.alloc (.cells #[.int .u64 (m : Nat), .int .u64 (S : Nat)] 73)) hg6 (HR5.out.alloc (.cells #[.int .u64 (m : Nat), .int .u64 (S : Nat)] 73)) keep_ne.2.2)
           have HP6 := Lib.hid (own_kept (HP5.out.alloc (.cells #[.int .u64 (m : Nat), .int .u64 (S : Nat)] 73)) hg6 (HR5.out.alloc (.cells #[.int .u64 (m : Nat), .int .u64 (S : Nat)] 73)) keep_ne.2.1)
           clear ho6 hb6 hg6))
      go_roundw
      case rel => exact ⟨j + 1, X2, D2, c2, P5, cp5, R6, cr6, by omega, rfl, rfl, rfl, by go_num, HX2, HS6, by rw [plcs_succ, HX.out]; exact HP6, by rw [HTK.out, rfs_snoc, HM.out, HSS.out]; exact HR6, HB6.out⟩
      case measure => simp [intOf] <;> omega
    · obtain rfl : N = j := by omega
      have d : decide ((N : Int) < (N : Int)) = false := by simp
      have htk : ls.take N = ls := List.take_of_length_le (by have := HL3.out; omega)
      have hs0 := HS.out
      have hr0 := HRF.out
      have hx0 := HX.out
      rw [htk, HW.out] at hx0 hs0
      rw [htk] at hr0
      obtain rfl : L = X := by rw [← hx0, HWL.out]
      have HSW := Lib.hid hs0
      have HRW := Lib.hid hr0
      have HB := Lib.hid hb
      have HCS := Lib.hid (own_cap hs0)
      have HALW := Lib.hid (show Jou.all W = (ls, L) from by rw [← HW.out, Jou.all_whole ls HLS.out, HW.out, HWL.out])
      clear htk hs0 hr0 hx0 HS HRF HX hb
      go_wp2_with fail
      have hwh := whole_any wr D L c W wr.heap.size (Nat.le_refl _) (Rd.of_own HSW.out) HCS.out.1 HCS.out.2 (by omega)
      rw [HALW.out] at hwh
      refine hwh.mono ?_
      clear hwh
      rintro en w2 ⟨rfl, hbn⟩
      replace HSW := Lib.hid (own_ext HSW.out hbn)
      replace HRW := Lib.hid (own_ext HRW.out hbn)
      replace HP := Lib.hid (own_ext HP.out hbn)
      replace HB := Lib.hid (HB.out.trans (hbn.mono HB.out.size))
      have tL : (((L : Nat) : Int) != (L : Int)) = false := by simp
      clear hbn
      go_wp2_with fail
      have hall := jall_any w2 D L c W w2.heap.size (Nat.le_refl _) (Rd.of_own HSW.out) HCS.out.1 HCS.out.2 (by omega)
      unfold JRows at hall
      rw [HALW.out] at hall
      simp only [HL3.out] at hall
      refine hall.mono ?_
      clear hall
      rintro en w3 ⟨E, e, ve, rfl, ho, hor, hbn⟩
      have HRE := Lib.hid (RdRows.of_own HL3.out ho hor)
      replace HSW := Lib.hid (own_ext HSW.out hbn)
      replace HRW := Lib.hid (own_ext HRW.out hbn)
      replace HP := Lib.hid (own_ext HP.out hbn)
      replace HB := Lib.hid (HB.out.trans (hbn.mono HB.out.size))
      clear hbn ho hor
      go_wp2_with fail
      refine (rows_true w3 E N e ls A cap w3.heap.size w.heap.size (Nat.le_refl _) HB.out.size HRE.out (H.out.below HB.out) (by omega) (fun l hl => by have := HLS.out l hl; omega)).mono ?_
      rintro en w4 ⟨rfl, hbn⟩
      replace HSW := Lib.hid (own_ext HSW.out hbn)
      replace HRW := Lib.hid (own_ext HRW.out hbn)
      replace HP := Lib.hid (own_ext HP.out hbn)
      replace HB := Lib.hid (HB.out.trans (hbn.mono HB.out.size))
      obtain ⟨n, hn, hnL⟩ : ∃ n : Nat, z % ((L : Int) + 1) = n ∧ n ≤ L := ⟨(z % ((L : Int) + 1)).toNat, by have := Int.emod_nonneg z (show ((L : Int) + 1) ≠ 0 by omega); omega, by have := Int.emod_lt_of_pos z (show 0 < ((L : Int) + 1) by omega); have := Int.emod_nonneg z (show ((L : Int) + 1) ≠ 0 by omega); omega⟩
      have hpk := pick_any w4 z (L + 1) (by omega) (by omega)
      rw [show ((L + 1 : Nat) : Int) = (L : Int) + 1 from rfl, hn] at hpk
      have HPK := Lib.hid hpk
      clear hpk hn hbn HRE tL
      go_wp2_with fail
      refine HPK.out.mono ?_
      clear HPK
      rintro en w5 ⟨rfl, hbn⟩
      replace HSW := Lib.hid (own_ext HSW.out hbn)
      replace HRW := Lib.hid (own_ext HRW.out hbn)
      replace HP := Lib.hid (own_ext HP.out hbn)
      replace HB := Lib.hid (HB.out.trans (hbn.mono HB.out.size))
      obtain ⟨K, hK1, hK2, hK3⟩ := Jou.whole_count ls n
      have hKN : K ≤ N := by have := HL3.out; omega
      have HK2 := Lib.hid hK2
      have HK3 := Lib.hid hK3
      clear hbn hK1 hK2 hK3 hj hlt hXL d
      go_wp2_with fail
      go_loopw [16, 17] (fun a i wr => ∃ j q : Nat, j ≤ N ∧ a = .int .i64 q ∧ i = .int .i64 j ∧ q ≤ K ∧ q ≤ j ∧ (j ≤ K → q = j) ∧ (K ≤ j → q = K) ∧ Below w5.heap.size w5 wr) (fun _ i _ => N - (intOf i).toNat)
      case atStart => exact ⟨0, 0, by omega, rfl, rfl, by omega, by omega, by omega, by omega, Below.refl _ _⟩
      case round =>
        obtain ⟨j, q, hj, rfl, rfl, hq1, hq2, hq3, hq4, hx⟩ := hrel
        have HBR := Lib.hid (HB.out.trans (hx.mono HB.out.size))
        have HSR := Lib.hid (own_ext HSW.out hx)
        have HXX := Lib.hid hx
        have HNL := Lib.hid hnL
        by_cases hlt : j < N
        · have hjl : j < ls.length := by have := HL3.out; omega
          obtain ⟨b1, o1, A1, m, c1, rfl, hb1, hc1, hm1, hm2', hr1⟩ := (H.out.below HBR.out).2 j hlt
          have hg : ls.getD j [] = ls[j] := by simp [List.getD, hjl]
          rw [hg] at hr1
          obtain ⟨gp, curp, rfl, hgp1, hgp2, hgp3⟩ := own_whole HP.out (by omega)
          obtain ⟨gr, curr, rfl, hgr1, hgr2, hgr3⟩ := own_whole HRW.out (by omega)
          obtain ⟨bb, oo, ee, _, hcc⟩ := (Rd.of_own HP.out).2 (by omega)
          have hpcell : ∀ i, i < N → wr.cell? ⟨gp, i, none⟩ = some (.int .i64 ((Jou.cat (ls.take i)).length : Nat)) := by
            intro i hi
            injection ee with ee
            injection ee with e1 e2
            subst e1 e2
            have h1 := hcc _ _ (plcs_get ls hi)
            rw [Nat.zero_add] at h1
            exact (hx.cell (p := ⟨gp, i, none⟩) hgp2.lt).trans h1
          obtain ⟨br, or_, er, _, hcr⟩ := (Rd.of_own HRW.out).2 (by omega)
          have hrcell : wr.cell? ⟨gr, j * 2, none⟩ = some (.int .u64 (ls[j].length : Nat)) ∧ wr.cell? ⟨gr, j * 2 + 1, none⟩ = some (.int .u64 (Crc.update 0 ls[j] : Nat)) := by
            injection er with er
            injection er with e1 e2
            subst e1 e2
            have h0 := rfs_get ls j hjl
            have h1 := hcr _ _ h0.1
            have h2 := hcr _ _ h0.2
            rw [Nat.zero_add] at h1 h2
            exact ⟨(hx.cell (p := ⟨gr, j * 2, none⟩) hgr2.lt).trans h1, (hx.cell (p := ⟨gr, j * 2 + 1, none⟩) hgr2.lt).trans h2⟩
          have hgw := fun hn => Jou.get_whole ls HLS.out hjl (n := n) hn
          have hgt := fun hn => Jou.get_torn ls HLS.out hjl (n := n) hn m (Crc.update 0 ls[j])
          have hle := HLS.out ls[j] (List.getElem_mem hjl)
          have hK3j := HK3.out j hjl
          obtain ⟨p, hp⟩ : ∃ p, ls[j] = p := ⟨_, rfl⟩
          rw [hp] at hr1 hrcell hgw hgt hle
          have hml := hr1.blen
          rw [hml] at hrcell hgw hle
          obtain ⟨S, hS⟩ : ∃ S, Crc.update 0 p = S := ⟨_, rfl⟩
          rw [hS, HW.out] at hgw hgt
          rw [hS] at hrcell
          obtain ⟨E, hE0⟩ : ∃ E, (Jou.cat (ls.take (j + 1))).length = E := ⟨_, rfl⟩
          obtain ⟨Pj, hPj⟩ : ∃ E, (Jou.cat (ls.take j)).length = E := ⟨_, rfl⟩
          have hPL : Pj ≤ L := by
            have h1 := Jou.cat_mono ls (show j ≤ ls.length by omega)
            rw [List.take_of_length_le (Nat.le_refl _), HW.out, HWL.out, hPj] at h1
            exact h1
          rw [hE0] at hgw hgt hK3j
          rw [hPj] at hgw hgt
          have hpc0 := hpcell j hlt
          rw [hPj] at hpc0
          have PC := Lib.hid hpc0
          have PC1 := Lib.hid (show j + 1 < N → wr.cell? ⟨gp, j + 1, none⟩ = some (.int .i64 (E : Nat)) from fun h => by have := hpcell (j + 1) h; rw [hE0] at this; exact this)
          have RC0 := Lib.hid hrcell.1
          have RC1 := Lib.hid hrcell.2
          have LP := Lib.hid (Nat.lt_of_lt_of_le hgp2.lt hx.size)
          have LR := Lib.hid (Nat.lt_of_lt_of_le hgr2.lt hx.size)
          have LB := Lib.hid (Nat.lt_of_lt_of_le hb1 HBR.out.size)
          have HE := Lib.hid hE0
          have HM := Lib.hid hml
          have HC1 := Lib.hid hc1
          have HR1 := Lib.hid hr1
          have hlp := Nat.lt_of_lt_of_le hgp2.lt hx.size
          have d : decide ((j : Int) < (N : Int)) = true := by simp; omega
          have d1 : (0 : Int) ≤ (j : Int) := by omega
          have d2 : (j : Int) < (N : Int) := by omega
          clear hg hgp1 hgp2 hgp3 hgr1 hgr2 hgr3 hcc hcr ee er hpcell hrcell hpc0 hE0 hPj hp hS hml hr1 hc1 hb1 hx
          by_cases hfit : E ≤ n
          · have HGET := Lib.hid (hgw hfit)
            have hjK : j < K := hK3j.1 hfit
            clear hgw hgt hK3j
            by_cases hlast : j + 1 < N
            · have dN : decide ((j : Int) + 1 < (N : Int)) = true := by simp; omega
              have hpc1 := PC1.out (by omega)
              have d3 : (0 : Int) ≤ (j : Int) + 1 := by omega
              have d4 : (j : Int) + 1 < (N : Int) := by omega
              have dE : decide ((E : Int) ≤ (n : Int)) = true := by simp; omega
              go_wp2_with fail
              have e0 : (0 : Int) ≤ (n : Int) := by omega
              have e1 : (n : Int) ≤ (c : Int) := by have := HCS.out; have := HNL.out; omega
              refine wp_region_grow (fun k' => List.lookup k' [(6, .fix (.int .i64 (Pj : Nat))), (10, .fix (.agg #[.int .u64 (m : Nat), .int .u64 (S : Nat)])), (11, .tup w.heap.size 5 m p 0)]) (by as_aux_lemma => kernel_rfl) (by as_aux_lemma => kernel_rfl) ?_
              repeat (refine wpGrow_pure rfl (fun K hK => ?_); go_simp; refine hK.out _ ?_; clear hK K)
              refine wpGrow_eff _ rfl (fun wx he hcl => ?_) (fun _ K hK => ?_) rfl
              · clear hcl
                have hq := (he.cell (p := ⟨gp, j, none⟩) LP.out).trans PC.out
                go_simp
                exact Below.refl _ _
              go_simp
              refine hK.out _ ?_
              clear hK K
              repeat (refine wpGrow_pure rfl (fun K hK => ?_); go_simp; refine hK.out _ ?_; clear hK K)
              refine wpGrow_eff _ rfl (fun wx he hcl => ?_) (fun _ K hK => ?_) rfl
              · clear hcl
                have hq0 := (he.cell (p := ⟨gr, j * 2, none⟩) LR.out).trans RC0.out
                have hq1 := (he.cell (p := ⟨gr, j * 2 + 1, none⟩) LR.out).trans RC1.out
                go_simp
                exact Below.refl _ _
              go_simp
              refine hK.out _ ?_
              clear hK K
              repeat (refine wpGrow_pure rfl (fun K hK => ?_); go_simp; refine hK.out _ ?_; clear hK K)
              refine wpGrow_eff _ rfl (fun wx he hcl => ?_) (fun (⟨D19, c19⟩ : Option Addr × Nat) K hK => ?_) rfl
              · clear hcl
                have hcon := jget_any wx D n c (W.take n) wx.heap.size (Nat.le_refl _) ((Rd.of_own (own_ext HSR.out he)).front (by have := HNL.out; omega)) (by have := HCS.out; have := HNL.out; omega) HCS.out.2 (by have := HNL.out; omega) (Pj : Nat) (by omega) (by omega) m S p 0 HGET.out
                unfold BytP at hcon
                simp only [HM.out] at hcon
                have hsz := Nat.le_trans HBR.out.size he.size
                go_simp
                exact hcon.mono fun e w2 ⟨E1, e1, h1, h2, h3⟩ => ⟨E1, e1, h1, own_base h2 hsz, h3⟩
              go_simp
              refine hK.out _ ?_
              clear hK K
              repeat (refine wpGrow_pure rfl (fun K hK => ?_); go_simp; refine hK.out _ ?_; clear hK K)
              refine wpGrow_nil fun wx he hfin => ?_
              have hown : wx.ownsRow w.heap.size 5 1 (.slice D19 m c19) m (byts p) := hfin.out 11
              clear hfin
              have hx2 := HXX.out.trans (he.mono HXX.out.size)
              have hq := (he.cell (p := ⟨b1, o1 + j, none⟩) LB.out).trans HC1.out
              have hlb := Nat.lt_of_lt_of_le LB.out he.size
              have HO19 := Lib.hid hown
              have HR1x := Lib.hid (HR1.out.below (he.mono HBR.out.size))
              have hszx := Nat.le_trans HBR.out.size he.size
              clear e0 e1 he hown
              go_wp2_with fail
              refine (same_any wx D19 m c19 p A1 m c1 p wx.heap.size w.heap.size (Nat.le_refl _) hszx (Rd.of_own HO19.out) HR1x.out (by omega) (by omega) true (by simp)).mono ?_
              rintro en w7 ⟨rfl, hbn⟩
              have hx3 := hx2.trans (hbn.mono hx2.size)
              clear hbn hx2
              go_wp2_with fail
              go_roundw
              case rel => exact ⟨j + 1, q + 1, by omega, by go_num, by go_num, by omega, by omega, by omega, by omega, hx3⟩
              case measure => simp [intOf] <;> omega
            · have dN : decide ((j : Int) + 1 < (N : Int)) = false := by simp; omega
              have hE : E = L := by have h1 := HE.out; have h2 := HWL.out; rw [show j + 1 = N by omega, List.take_of_length_le (by have := HL3.out; omega), HW.out, h2] at h1; exact h1.symm
              have dE : decide ((L : Int) ≤ (n : Int)) = true := by simp; omega
              go_wp2_with fail
              have e0 : (0 : Int) ≤ (n : Int) := by omega
              have e1 : (n : Int) ≤ (c : Int) := by have := HCS.out; have := HNL.out; omega
              refine wp_region_grow (fun k' => List.lookup k' [(6, .fix (.int .i64 (Pj : Nat))), (10, .fix (.agg #[.int .u64 (m : Nat), .int .u64 (S : Nat)])), (11, .tup w.heap.size 5 m p 0)]) (by as_aux_lemma => kernel_rfl) (by as_aux_lemma => kernel_rfl) ?_
              repeat (refine wpGrow_pure rfl (fun K hK => ?_); go_simp; refine hK.out _ ?_; clear hK K)
              refine wpGrow_eff _ rfl (fun wx he hcl => ?_) (fun _ K hK => ?_) rfl
              · clear hcl
                have hq := (he.cell (p := ⟨gp, j, none⟩) LP.out).trans PC.out
                go_simp
                exact Below.refl _ _
              go_simp
              refine hK.out _ ?_
              clear hK K
              repeat (refine wpGrow_pure rfl (fun K hK => ?_); go_simp; refine hK.out _ ?_; clear hK K)
              refine wpGrow_eff _ rfl (fun wx he hcl => ?_) (fun _ K hK => ?_) rfl
              · clear hcl
                have hq0 := (he.cell (p := ⟨gr, j * 2, none⟩) LR.out).trans RC0.out
                have hq1 := (he.cell (p := ⟨gr, j * 2 + 1, none⟩) LR.out).trans RC1.out
                go_simp
                exact Below.refl _ _
              go_simp
              refine hK.out _ ?_
              clear hK K
              repeat (refine wpGrow_pure rfl (fun K hK => ?_); go_simp; refine hK.out _ ?_; clear hK K)
              refine wpGrow_eff _ rfl (fun wx he hcl => ?_) (fun (⟨D19, c19⟩ : Option Addr × Nat) K hK => ?_) rfl
              · clear hcl
                have hcon := jget_any wx D n c (W.take n) wx.heap.size (Nat.le_refl _) ((Rd.of_own (own_ext HSR.out he)).front (by have := HNL.out; omega)) (by have := HCS.out; have := HNL.out; omega) HCS.out.2 (by have := HNL.out; omega) (Pj : Nat) (by omega) (by omega) m S p 0 HGET.out
                unfold BytP at hcon
                simp only [HM.out] at hcon
                have hsz := Nat.le_trans HBR.out.size he.size
                go_simp
                exact hcon.mono fun e w2 ⟨E1, e1, h1, h2, h3⟩ => ⟨E1, e1, h1, own_base h2 hsz, h3⟩
              go_simp
              refine hK.out _ ?_
              clear hK K
              repeat (refine wpGrow_pure rfl (fun K hK => ?_); go_simp; refine hK.out _ ?_; clear hK K)
              refine wpGrow_nil fun wx he hfin => ?_
              have hown : wx.ownsRow w.heap.size 5 1 (.slice D19 m c19) m (byts p) := hfin.out 11
              clear hfin
              have hx2 := HXX.out.trans (he.mono HXX.out.size)
              have hq := (he.cell (p := ⟨b1, o1 + j, none⟩) LB.out).trans HC1.out
              have hlb := Nat.lt_of_lt_of_le LB.out he.size
              have HO19 := Lib.hid hown
              have HR1x := Lib.hid (HR1.out.below (he.mono HBR.out.size))
              have hszx := Nat.le_trans HBR.out.size he.size
              clear e0 e1 he hown
              go_wp2_with fail
              refine (same_any wx D19 m c19 p A1 m c1 p wx.heap.size w.heap.size (Nat.le_refl _) hszx (Rd.of_own HO19.out) HR1x.out (by omega) (by omega) true (by simp)).mono ?_
              rintro en w7 ⟨rfl, hbn⟩
              have hx3 := hx2.trans (hbn.mono hx2.size)
              clear hbn hx2
              go_wp2_with fail
              go_roundw
              case rel => exact ⟨j + 1, q + 1, by omega, by go_num, by go_num, by omega, by omega, by omega, by omega, hx3⟩
              case measure => simp [intOf] <;> omega
          · obtain ⟨x, hx0, hgx⟩ := hgt (by omega)
            have HGET := Lib.hid hgx
            have hjK : ¬ j < K := fun h => hfit (hK3j.2 h)
            clear hgw hgt hgx hK3j
            by_cases hlast : j + 1 < N
            · have dN : decide ((j : Int) + 1 < (N : Int)) = true := by simp; omega
              have hpc1 := PC1.out (by omega)
              have d3 : (0 : Int) ≤ (j : Int) + 1 := by omega
              have d4 : (j : Int) + 1 < (N : Int) := by omega
              have dE : decide ((E : Int) ≤ (n : Int)) = false := by simp; omega
              have dx : (((x : Nat) : Int) == 0) = false := by rw [beq_eq_false_iff_ne]; omega
              go_wp2_with fail
              have e0 : (0 : Int) ≤ (n : Int) := by omega
              have e1 : (n : Int) ≤ (c : Int) := by have := HCS.out; have := HNL.out; omega
              refine wp_region_grow (fun k' => List.lookup k' [(6, .fix (.int .i64 (Pj : Nat))), (10, .fix (.agg #[.int .u64 (m : Nat), .int .u64 (S : Nat)])), (11, .tup w.heap.size 5 0 [] x)]) (by as_aux_lemma => kernel_rfl) (by as_aux_lemma => kernel_rfl) ?_
              repeat (refine wpGrow_pure rfl (fun K hK => ?_); go_simp; refine hK.out _ ?_; clear hK K)
              refine wpGrow_eff _ rfl (fun wx he hcl => ?_) (fun _ K hK => ?_) rfl
              · clear hcl
                have hq := (he.cell (p := ⟨gp, j, none⟩) LP.out).trans PC.out
                go_simp
                exact Below.refl _ _
              go_simp
              refine hK.out _ ?_
              clear hK K
              repeat (refine wpGrow_pure rfl (fun K hK => ?_); go_simp; refine hK.out _ ?_; clear hK K)
              refine wpGrow_eff _ rfl (fun wx he hcl => ?_) (fun _ K hK => ?_) rfl
              · clear hcl
                have hq0 := (he.cell (p := ⟨gr, j * 2, none⟩) LR.out).trans RC0.out
                have hq1 := (he.cell (p := ⟨gr, j * 2 + 1, none⟩) LR.out).trans RC1.out
                go_simp
                exact Below.refl _ _
              go_simp
              refine hK.out _ ?_
              clear hK K
              repeat (refine wpGrow_pure rfl (fun K hK => ?_); go_simp; refine hK.out _ ?_; clear hK K)
              refine wpGrow_eff _ rfl (fun wx he hcl => ?_) (fun (⟨D19, c19⟩ : Option Addr × Nat) K hK => ?_) rfl
              · clear hcl
                have hcon := jget_any wx D n c (W.take n) wx.heap.size (Nat.le_refl _) ((Rd.of_own (own_ext HSR.out he)).front (by have := HNL.out; omega)) (by have := HCS.out; have := HNL.out; omega) HCS.out.2 (by have := HNL.out; omega) (Pj : Nat) (by omega) (by omega) m S [] x HGET.out
                unfold BytP at hcon
                simp only [List.length_nil] at hcon
                have hsz := Nat.le_trans HBR.out.size he.size
                go_simp
                exact hcon.mono fun e w2 ⟨E1, e1, h1, h2, h3⟩ => ⟨E1, e1, h1, own_base h2 hsz, h3⟩
              go_simp
              refine hK.out _ ?_
              clear hK K
              repeat (refine wpGrow_pure rfl (fun K hK => ?_); go_simp; refine hK.out _ ?_; clear hK K)
              refine wpGrow_nil fun wx he hfin => ?_
              have hown : wx.ownsRow w.heap.size 5 1 (.slice D19 0 c19) 0 (byts []) := hfin.out 11
              clear hfin
              have hx2 := HXX.out.trans (he.mono HXX.out.size)
              clear e0 e1 he hown
              go_wp2_with fail
              go_roundw
              case rel => exact ⟨j + 1, q, by omega, rfl, by go_num, by omega, by omega, by omega, by omega, hx2⟩
              case measure => simp [intOf] <;> omega
            · have dN : decide ((j : Int) + 1 < (N : Int)) = false := by simp; omega
              have hE : E = L := by have h1 := HE.out; have h2 := HWL.out; rw [show j + 1 = N by omega, List.take_of_length_le (by have := HL3.out; omega), HW.out, h2] at h1; exact h1.symm
              have dE : decide ((L : Int) ≤ (n : Int)) = false := by simp; omega
              have dx : (((x : Nat) : Int) == 0) = false := by rw [beq_eq_false_iff_ne]; omega
              go_wp2_with fail
              have e0 : (0 : Int) ≤ (n : Int) := by omega
              have e1 : (n : Int) ≤ (c : Int) := by have := HCS.out; have := HNL.out; omega
              refine wp_region_grow (fun k' => List.lookup k' [(6, .fix (.int .i64 (Pj : Nat))), (10, .fix (.agg #[.int .u64 (m : Nat), .int .u64 (S : Nat)])), (11, .tup w.heap.size 5 0 [] x)]) (by as_aux_lemma => kernel_rfl) (by as_aux_lemma => kernel_rfl) ?_
              repeat (refine wpGrow_pure rfl (fun K hK => ?_); go_simp; refine hK.out _ ?_; clear hK K)
              refine wpGrow_eff _ rfl (fun wx he hcl => ?_) (fun _ K hK => ?_) rfl
              · clear hcl
                have hq := (he.cell (p := ⟨gp, j, none⟩) LP.out).trans PC.out
                go_simp
                exact Below.refl _ _
              go_simp
              refine hK.out _ ?_
              clear hK K
              repeat (refine wpGrow_pure rfl (fun K hK => ?_); go_simp; refine hK.out _ ?_; clear hK K)
              refine wpGrow_eff _ rfl (fun wx he hcl => ?_) (fun _ K hK => ?_) rfl
              · clear hcl
                have hq0 := (he.cell (p := ⟨gr, j * 2, none⟩) LR.out).trans RC0.out
                have hq1 := (he.cell (p := ⟨gr, j * 2 + 1, none⟩) LR.out).trans RC1.out
                go_simp
                exact Below.refl _ _
              go_simp
              refine hK.out _ ?_
              clear hK K
              repeat (refine wpGrow_pure rfl (fun K hK => ?_); go_simp; refine hK.out _ ?_; clear hK K)
              refine wpGrow_eff _ rfl (fun wx he hcl => ?_) (fun (⟨D19, c19⟩ : Option Addr × Nat) K hK => ?_) rfl
              · clear hcl
                have hcon := jget_any wx D n c (W.take n) wx.heap.size (Nat.le_refl _) ((Rd.of_own (own_ext HSR.out he)).front (by have := HNL.out; omega)) (by have := HCS.out; have := HNL.out; omega) HCS.out.2 (by have := HNL.out; omega) (Pj : Nat) (by omega) (by omega) m S [] x HGET.out
                unfold BytP at hcon
                simp only [List.length_nil] at hcon
                have hsz := Nat.le_trans HBR.out.size he.size
                go_simp
                exact hcon.mono fun e w2 ⟨E1, e1, h1, h2, h3⟩ => ⟨E1, e1, h1, own_base h2 hsz, h3⟩
              go_simp
              refine hK.out _ ?_
              clear hK K
              repeat (refine wpGrow_pure rfl (fun K hK => ?_); go_simp; refine hK.out _ ?_; clear hK K)
              refine wpGrow_nil fun wx he hfin => ?_
              have hown : wx.ownsRow w.heap.size 5 1 (.slice D19 0 c19) 0 (byts []) := hfin.out 11
              clear hfin
              have hx2 := HXX.out.trans (he.mono HXX.out.size)
              clear e0 e1 he hown
              go_wp2_with fail
              go_roundw
              case rel => exact ⟨j + 1, q, by omega, rfl, by go_num, by omega, by omega, by omega, by omega, hx2⟩
              case measure => simp [intOf] <;> omega
        · obtain rfl : N = j := by omega
          have d : decide ((N : Int) < (N : Int)) = false := by simp
          obtain rfl : q = K := by omega
          obtain ⟨Q, hQ⟩ : ∃ Q, (Jou.cat (ls.take q)).length = Q := ⟨_, rfl⟩
          obtain ⟨CQ, hCQ⟩ : ∃ C, Jou.cat (ls.take q) = C := ⟨_, rfl⟩
          have haln := Jou.all_cut ls HLS.out (K := q) (n := n) (by have := HL3.out; omega) HK2.out HK3.out (by rw [HW.out, HWL.out]; exact hnL)
          have hac := (Jou.all_cat ((Jou.cat ls).take n)).1
          rw [haln] at hac
          rw [hCQ] at hQ
          simp only at hac
          rw [hCQ, hQ, HW.out] at hac
          rw [HW.out, hCQ, hQ] at haln
          have hqn : Q ≤ n := by have := HK2.out; rw [hCQ, hQ] at this; exact this
          have hacq := Jou.all_whole (ls.take q) (fun p hp => HLS.out p (List.mem_of_mem_take hp))
          rw [hCQ, hQ] at hacq
          obtain ⟨V, hV⟩ : ∃ V, (Jou.all (W ++ tl)).2 = V := ⟨_, rfl⟩
          have hVL := Jou.whole_more ls HLS.out tl
          rw [HW.out, HWL.out, hV] at hVL
          have hVm := (Jou.all_cat (W ++ tl)).2.1
          rw [hV, List.length_append, HWL.out, HL2.out] at hVm
          have HALN := Lib.hid haln
          have HAC := Lib.hid hac
          have HACQ := Lib.hid hacq
          have HV := Lib.hid hV
          have HQL := Lib.hid hQ
          have HTL := Lib.hid (show (ls.take q).length = q by rw [List.length_take, HL3.out]; omega)
          have e0 : (0 : Int) ≤ (n : Int) := by omega
          have e1 : (n : Int) ≤ (c : Int) := by have := HCS.out; omega
          clear haln hac hacq hV hQ hCQ HK2 HK3 hq1 hq2 hq3 hq4 hj hlt hx HXX HP HRW HB
          go_wp2_with fail
          have hcut := jcut_any wr D n c (W.take n) wr.heap.size (Nat.le_refl _) ((Rd.of_own HSR.out).front (by omega)) (by have := HCS.out; omega) HCS.out.2 (by omega) Q (by rw [HALN.out]) hqn
          rw [← HAC.out] at hcut
          refine hcut.mono ?_
          clear hcut
          rintro en w6 ⟨D21, c21, rfl, ho, hbn⟩
          have HO21 := Lib.hid (own_base ho HBR.out.size)
          have HC21 := Lib.hid (own_cap ho)
          replace HSR := Lib.hid (own_ext HSR.out hbn)
          replace HBR := Lib.hid (HBR.out.trans (hbn.mono HBR.out.size))
          clear ho hbn
          go_wp2_with fail
          have hown := own_any w6 D L c W w6.heap.size (Rd.of_own HSR.out) (by omega)
          rw [HWL.out] at hown
          refine hown.mono ?_
          clear hown
          rintro en w7 ⟨D22, c22, rfl, ho, hbn⟩
          have HO22 := Lib.hid ho
          have HS6 := Lib.hid HSR.out
          have HO6 := Lib.hid HO21.out
          replace HSR := Lib.hid (own_ext HSR.out hbn)
          replace HO21 := Lib.hid (own_ext HO21.out hbn)
          have HZ6 := Lib.hid HBR.out.size
          replace HBR := Lib.hid (HBR.out.trans (hbn.mono HBR.out.size))
          have hz7 := hbn.size
          clear ho hbn
          go_wp2_with (at_builtin; refine wpList_append_rd _ rfl (.tmp 146) (.tmp 147) _ rfl bytesV w6.heap.size _ L _ rfl HO22.out w.heap.size A2 m2 cap2 _ rfl (H2.out.below HBR.out) (byts_one _) (by unfold maxLen; omega) (by omega) hz7 ?_; intro D23 c23 w8 ho8 hb8 _ _; rw [← byts_append] at ho8; have HO23 := Lib.hid ho8; have HB8 := Lib.hid hb8; clear ho8 hb8)
          replace HSR := Lib.hid (own_older HS6.out HSR.out HB8.out (Nat.le_refl _))
          replace HO21 := Lib.hid (own_older HO6.out HO21.out HB8.out (Nat.le_refl _))
          replace HBR := Lib.hid (HBR.out.trans (HB8.out.mono HZ6.out))
          have HC23 := Lib.hid (own_cap HO23.out)
          have tQ : (((Q : Nat) : Int) == (Q : Int)) = true := by simp
          have tV : decide ((L : Int) ≤ (V : Int)) = true := by simp; omega
          have q0 : (0 : Int) ≤ (q : Int) := by omega
          have q1 : (q : Int) ≤ (cap : Int) := by omega
          clear HB8 HS6 HO6 HO22 hz7 HZ6
          refine wp_region_grow (fun k' => List.lookup k' [(3, .rws w.heap.size 22 5 q (ls.take q)), (7, .fix (.bool true)), (10, .fix (.int .i64 (Q : Nat))), (17, .fix (.int .i64 (V : Nat))), (23, .fix (.bool true))]) (by as_aux_lemma => kernel_rfl) (by as_aux_lemma => kernel_rfl) ?_
          repeat (refine wpGrow_pure rfl (fun K hK => ?_); go_simp; refine hK.out _ ?_; clear hK K)
          refine wpGrow_eff _ rfl (fun wx he hcl => ?_) (fun (⟨E3, e3⟩ : Option Addr × Nat) K hK => ?_) rfl
          · clear hcl
            have hcon := jall_any wx D n c (W.take n) wx.heap.size (Nat.le_refl _) ((Rd.of_own (own_ext HSR.out he)).front (by omega)) (by have := HCS.out; omega) HCS.out.2 (by omega)
            unfold JRows at hcon
            rw [HALN.out] at hcon
            simp only [HTL.out] at hcon
            have hsz := Nat.le_trans HBR.out.size he.size
            go_simp
            refine hcon.mono ?_
            rintro en w2 ⟨E1, e1', vs1, h1, h2, h3, h4⟩
            exact ⟨E1, e1', h1, ⟨vs1, own_base h2 hsz, ⟨h3.1, fun j hj => by obtain ⟨a, b, g1, g2⟩ := h3.2 j hj; exact ⟨a, b, g1, own_base g2 hsz⟩⟩⟩, h4⟩
          go_simp
          refine hK.out _ ?_
          clear hK K
          repeat (refine wpGrow_pure rfl (fun K hK => ?_); go_simp; refine hK.out _ ?_; clear hK K)
          refine wpGrow_eff _ rfl (fun wx he hcl => ?_) (fun _ K hK => ?_) rfl
          · have hx : ∃ vs, wx.ownsRow w.heap.size 22 1 (.slice E3 q e3) q vs ∧ OwnRows wx w.heap.size 5 (ls.take q) vs := hcl.out 3 rfl
            clear hcl
            obtain ⟨vs3, hx1, hx2⟩ := hx
            have hbx := HBR.out.trans (he.mono HBR.out.size)
            have hcon := rows_true wx E3 q e3 (ls.take q) A cap wx.heap.size w.heap.size (Nat.le_refl _) hbx.size (RdRows.of_own HTL.out hx1 hx2) (RdRows.upto (H.out.below hbx) hKN) (by omega) (fun l hl => by have := HLS.out l (List.mem_of_mem_take hl); omega)
            clear hx1 hx2 hbx
            go_simp
            all_goals exact hcon
          go_simp
          refine hK.out _ ?_
          clear hK K
          repeat (refine wpGrow_pure rfl (fun K hK => ?_); go_simp; refine hK.out _ ?_; clear hK K)
          refine wpGrow_eff _ rfl (fun wx he hcl => ?_) (fun _ K hK => ?_) rfl
          · clear hcl
            have hcon := whole_any wx D21 Q c21 CQ wx.heap.size (Nat.le_refl _) (Rd.of_own (own_ext HO21.out he)) HC21.out.1 HC21.out.2 (by omega)
            rw [HACQ.out] at hcon
            go_simp
            all_goals exact hcon
          go_simp
          refine hK.out _ ?_
          clear hK K
          repeat (refine wpGrow_pure rfl (fun K hK => ?_); go_simp; refine hK.out _ ?_; clear hK K)
          refine wpGrow_eff _ rfl (fun wx he hcl => ?_) (fun _ K hK => ?_) rfl
          · clear hcl
            have hcon := whole_any wx D23 (L + m2) c23 (W ++ tl) wx.heap.size (Nat.le_refl _) (Rd.of_own (own_ext HO23.out he)) HC23.out.1 HC23.out.2 (by omega)
            rw [HV.out] at hcon
            go_simp
            all_goals exact hcon
          go_simp
          refine hK.out _ ?_
          clear hK K
          repeat (refine wpGrow_pure rfl (fun K hK => ?_); go_simp; refine hK.out _ ?_; clear hK K)
          refine wpGrow_eff _ rfl (fun wx he hcl => ?_) (fun _ K hK => ?_) rfl
          · clear hcl
            have hcon := jworks_any wx
            go_simp
            all_goals exact hcon
          go_simp
          refine hK.out _ ?_
          clear hK K
          repeat (refine wpGrow_pure rfl (fun K hK => ?_); go_simp; refine hK.out _ ?_; clear hK K)
          refine wpGrow_nil fun wx he hfin => ?_
          clear hfin
          have hbf := HBR.out.trans (he.mono HBR.out.size)
          clear he e0 e1 q0 q1 tQ tV
          go_wp2_with fail
          go_ret
          exact ⟨rfl, hbf⟩

end Go.Proofs.Ytnncohajlmbedaa
