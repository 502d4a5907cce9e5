/-
  Journals: all payloads and what is appended, by the document; rows told apart; the law's few.
-/
import Derived.Test.YtnncohajlmbedaaJouApp
namespace Go.Proofs.Ytnncohajlmbedaa
open Go.RowKit
attribute [local go_sem] match_undef Oper.growAt Oper.growUpon GSpec.fix GSpec.row GSpec.wh GSpec.own
attribute [local irreducible] wpList
theorem RdRows.of_own {w : World} {base base' N c : Nat} {te tr : TypeId} {D : Option Addr} {ls : List (List UInt8)} {vs : List Value} (hl : ls.length = N) (h : w.ownsRow base tr 1 (.slice D N c) N vs) (hr : OwnRows w base' te ls vs) : RdRows w w.heap.size D N ls := by
  subst hl
  refine ⟨rfl, fun k hk => ?_⟩
  obtain ⟨b, o, e, hb, hc⟩ := (Rd.of_own h).2 (by omega)
  obtain ⟨A', c', h1, h2⟩ := hr.2 k hk
  have hg : ls.getD k [] = ls[k] := by simp [List.getD, hk]
  rw [hg]
  exact ⟨b, o, A', _, c', e, hb, hc _ _ h1, (own_cap h2).1, (own_cap h2).2, Rd.of_own h2⟩
theorem RdRows.snoc_own {w : World} {base base' N c m c' B : Nat} {te tr : TypeId} {D A : Option Addr} {ls : List (List UInt8)} {vs : List Value} {l : List UInt8} (hl : ls.length = N) (ho : w.ownsRow base tr 1 (.slice D (N + 1) c) (N + 1) (vs ++ [.slice A m c'])) (hr : OwnRows w base' te ls vs)
    (hc : m ≤ c') (hm : c' ≤ maxLen) (h : Rd w B 1 A m (byts l)) (hB : B ≤ w.heap.size) : RdRows w w.heap.size D (N + 1) (ls ++ [l]) := by
  subst hl
  refine ⟨by simp, fun k hk => ?_⟩
  obtain ⟨b, o, e, hb, hcell⟩ := (Rd.of_own ho).2 (by omega)
  by_cases hlt : k < ls.length
  · obtain ⟨A', c2, h1, h2⟩ := hr.2 k hlt
    have hg : (ls ++ [l]).getD k [] = ls[k] := by rw [List.getD_eq_getElem?_getD, List.getElem?_append_left hlt, List.getElem?_eq_getElem hlt]; rfl
    rw [hg]
    exact ⟨b, o, A', _, c2, e, hb, hcell _ _ (by rw [List.getElem?_append_left (by rw [hr.1]; exact hlt)]; exact h1), (own_cap h2).1, (own_cap h2).2, Rd.of_own h2⟩
  · obtain rfl : k = ls.length := by omega
    have hg : (ls ++ [l]).getD ls.length [] = l := by simp [List.getD]
    rw [hg]
    exact ⟨b, o, A, m, c', e, hb, hcell _ _ (by rw [← hr.1]; simp), hc, hm, h.more hB⟩

set_option maxRecDepth 100000 in
set_option maxHeartbeats 8000000 in
theorem rjall_any (w : World) (A : Option Addr) (n cap : Nat) (b : List UInt8) (B : Nat) (hB : B ≤ w.heap.size) (h : Rd w B 1 A n (byts b)) (hc : n ≤ cap) (hmn : n ≤ 1000000) :
    Calls Try.prog 81 #[.slice A n cap] w (JRows (Jou.all b).1 22 5 w) := by
  have HL := Lib.hid h.blen
  have H := Lib.hid h
  have HB := Lib.hid hB
  clear h hB
  go_enter Try.func81, Try.ntmps81
  go_wp2_with fail
  go_loopw [3, 4] (fun v i wr => ∃ (pre : List (List UInt8)) (N q : Nat) (D : Option Addr) (c : Nat) (vs : List Value), v = .slice D N c ∧ i = .int .i64 q ∧ Hid (Jou.At b pre q) ∧ Hid (pre.length = N) ∧ Hid (wr.ownsRow w.heap.size 22 1 (.slice D N c) N vs) ∧ Hid (OwnRows wr w.heap.size 5 pre vs) ∧ Below w.heap.size w wr) (fun _ i _ => n - (intOf i).toNat)
  case atStart => exact ⟨[], 0, 0, none, 0, [], rfl, rfl, Jou.At.start b, rfl, World.ownsRow_nil _ _ _ _, OwnRows.nil _ _ _, Below.refl _ _⟩
  case round =>
    obtain ⟨pre, N, q, D, c, vs, rfl, rfl, HAT, HN, HO, HR, hb⟩ := hrel
    have hqn : q ≤ n := by have := HAT.out.1; have := HL.out; omega
    have hNq : N ≤ q := by have := HAT.out.2.1; have := HN.out; omega
    by_cases hlt : q < n
    · have d : decide ((q : Int) < (n : Int)) = true := by simp; omega
      have hnx := rjnext_any wr A n cap b B (Nat.le_trans HB.out hb.size) (H.out.below (hb.mono HB.out)) hc hmn (q : Nat) (by omega) (by omega)
      obtain ⟨t, ht⟩ : ∃ t, Jou.next b ((q : Nat) : Int) = t := ⟨_, rfl⟩
      rw [ht] at hnx
      obtain ⟨bd, nx, x⟩ := t
      unfold JouP at hnx
      simp only at hnx
      have HNX := Lib.hid hnx
      have HT := Lib.hid ht
      clear hnx ht
      by_cases hx : x = 0
      · subst hx
        have hbd := Jou.next_bound (b := b) (p := (q : Nat)) (by rw [HT.out])
        rw [HT.out] at hbd
        simp only at hbd
        obtain ⟨r, rfl⟩ : ∃ r : Nat, nx = r := ⟨nx.toNat, by omega⟩
        have hst := HAT.out.step HT.out
        have HST := Lib.hid hst.1
        have hqr := hst.2
        obtain ⟨m, hm⟩ : ∃ m, bd.length = m := ⟨_, rfl⟩
        rw [hm] at HNX
        have HM := Lib.hid hm
        have hrn : r ≤ n := by have := HL.out; omega
        clear hst hbd hm
        go_wp2_with fail
        refine HNX.out.mono ?_
        clear HNX
        rintro en w2 ⟨E, e, rfl, ho, hbn⟩
        have HO2 := Lib.hid (own_base ho hb.size)
        replace HO := Lib.hid (own_ext HO.out hbn)
        replace HR := Lib.hid (HR.out.ext hbn)
        replace hb := hb.trans (hbn.mono hb.size)
        have HW := Lib.hid (Rd.new1 w2 22 (.slice E m e))
        have hz3 : w.heap.size ≤ (w2.alloc (.cells #[.slice E m e] 22)).heap.size := by have := hb.size; simp; omega
        clear ho hbn
        go_wp2_with (at_builtin; refine wpList_append_rd _ rfl (.tmp 22) (.tmp 24) _ rfl rowsW w.heap.size _ N _ rfl (HO.out.alloc _) _ (some ⟨w2.heap.size, 0, none⟩) 1 1 _ rfl HW.out (by intro u hu; simp at hu; subst hu; rfl) (by unfold maxLen; omega) (by omega) hz3 ?_; intro D6 c6 w6 ho6 hb6 hg6 _; have HO6 := Lib.hid ho6; have HB6 := Lib.hid hb6; have HR6 := Lib.hid (((HR.out.ext (below1 w2 _)).kept hg6 (HO.out.alloc _) jou_ne.2.2).snoc HM.out (own_kept (HO2.out.alloc _) hg6 (HO.out.alloc _) jou_ne.2.2)); clear ho6 hb6 hg6)
        have hb7 := (hb.alloc hb.size (.cells #[.slice E m e] 22)).trans HB6.out
        clear hb HB6 HW hz3
        go_roundw
        case rel => exact ⟨pre ++ [bd], N + 1, r, D6, c6, _, rfl, rfl, HST, Lib.hid (by rw [List.length_append, List.length_singleton, HN.out]), HO6, HR6, hb7⟩
        case measure => simp [intOf] <;> omega
      · have hxx : (((x : Nat) : Int) != 0) = true := by rw [bne_iff_ne]; omega
        have HALL := Lib.hid (HAT.out.stop (by rw [HT.out]; exact hx))
        clear HT hx
        go_wp2_with fail
        refine HNX.out.mono ?_
        clear HNX
        rintro en w2 ⟨E, e, rfl, ho, hbn⟩
        replace HO := Lib.hid (own_ext HO.out hbn)
        replace HR := Lib.hid (HR.out.ext hbn)
        replace hb := hb.trans (hbn.mono hb.size)
        clear ho hbn
        go_wp2_with fail
        go_ret
        unfold JRows
        rw [HALL.out]
        simp only
        rw [HN.out]
        exact ⟨D, c, vs, rfl, HO.out, HR.out, hb⟩
    · have d : decide ((q : Int) < (n : Int)) = false := by simp; omega
      have HALL := Lib.hid (HAT.out.stop (Jou.next_end (by have := HL.out; omega)))
      go_wp2_with fail
      go_ret
      unfold JRows
      rw [HALL.out]
      simp only
      rw [HN.out]
      exact ⟨D, c, vs, rfl, HO.out, HR.out, hb⟩

set_option maxRecDepth 100000 in
set_option maxHeartbeats 8000000 in
theorem rjapp_any (w : World) (A : Option Addr) (n cap : Nat) (b : List UInt8) (B : Nat) (hB : B ≤ w.heap.size) (h : Rd w B 1 A n (byts b)) (hc : n ≤ cap) (hn : n ≤ 1000000) (A2 : Option Addr) (m cap2 : Nat) (p : List UInt8) (h2 : Rd w B 1 A2 m (byts p)) (hc2 : m ≤ cap2) (hm2 : cap2 ≤ maxLen) (hn2 : m ≤ 140737488351232) :
    Calls Try.prog 48 #[.slice A n cap, .slice A2 m cap2] w (AppP b p 5 w) := by
  have HL2 := Lib.hid h2.blen
  have hl := h.blen
  have k0 := Whole.new w 76 #[.int .u64 0, .int .u64 0]
  have hb0 := below1 w (.cells #[.int .u64 0, .int .u64 0] 76)
  have H := Lib.hid (h.alloc hB (.cells #[.int .u64 0, .int .u64 0] 76))
  have H2 := Lib.hid (h2.alloc hB (.cells #[.int .u64 0, .int .u64 0] 76))
  have HL := Lib.hid hl
  obtain ⟨hj1, hj2⟩ := Jou.join_all b
  obtain ⟨hj3, hj4⟩ := Jou.join_snoc b p
  obtain ⟨ac1, ac2, ac3, ac4⟩ := Jou.all_cat b
  obtain ⟨ls, hls⟩ : ∃ ls, (Jou.all b).1 = ls := ⟨_, rfl⟩
  obtain ⟨K, hK⟩ : ∃ K, (Jou.all b).2 = K := ⟨_, rfl⟩
  obtain ⟨N, hN⟩ : ∃ N, ls.length = N := ⟨_, rfl⟩
  rw [hls] at hj1 hj2 hj3 hj4 ac1 ac3 ac4
  rw [hK] at hj1 ac1 ac2
  rw [hN] at ac3
  have hKT : (b.take K).length = K := by rw [List.length_take]; omega
  have hNn : N ≤ 1000000 := by omega
  have hN3 : N ≤ 99999 ∨ 99999 < N := by omega
  clear h h2 hl
  go_enter Try.func48, Try.ntmps48
  go_wp2_with fail
  obtain ⟨g, hg⟩ : ∃ g, w.heap.size = g := ⟨_, rfl⟩
  have HG := Lib.hid hg
  rw [hg] at k0 hb0 hB ⊢
  have hz2 : (w.alloc (.cells #[.int .u64 0, .int .u64 0] 76)).heap.size = g + 1 := by simp [hg]
  clear hg
  generalize w.alloc (.cells #[.int .u64 0, .int .u64 0] 76) = w2 at *
  have HJ1 := Lib.hid hj1
  have HJ2 := Lib.hid hj2
  have HJ3 := Lib.hid hj3
  have HJ4 := Lib.hid hj4
  have HKT := Lib.hid hKT
  have HLS := Lib.hid hls
  have HKK := Lib.hid hK
  have HNL := Lib.hid hN
  have HA4 := Lib.hid ac4
  have K0 := Lib.hid k0
  have hall := rjall_any w2 A n cap b B (by omega) H.out hc hn
  unfold JRows at hall
  rw [hls, hN] at hall
  clear hj1 hj2 hj3 hj4 hKT hls hK hN ac1 ac2 ac3 ac4 k0
  refine hall.mono ?_
  clear hall
  rintro en w3 ⟨D8, c8, v8, rfl, ho8, hr8, hbn⟩
  have HO8 := Lib.hid ho8
  have HR8 := Lib.hid hr8
  replace K0 := Lib.hid (K0.out.below hbn K0.out.lt)
  replace H2 := Lib.hid (H2.out.below (hbn.mono (by omega)))
  have HB3 := Lib.hid (hb0.trans (hbn.mono (by omega)))
  have HZ3 := Lib.hid (show g + 1 ≤ w3.heap.size by have := hbn.size; omega)
  clear ho8 hr8 hbn hb0 H
  go_wp2_with fail
  have hput := rjput_any w3 D8 N c8 ls w3.heap.size (Nat.le_refl _) (RdRows.of_own HNL.out HO8.out HR8.out) (by omega) (fun l hl => by have := HA4.out l hl; omega)
  unfold BytP at hput
  rw [HJ1.out, HJ2.out, HKT.out] at hput
  refine hput.mono ?_
  clear hput
  rintro en w4 ⟨D9, c9, rfl, _, hbn⟩
  replace HO8 := Lib.hid (own_ext HO8.out hbn)
  replace HR8 := Lib.hid (HR8.out.ext hbn)
  replace K0 := Lib.hid (K0.out.below hbn K0.out.lt)
  replace H2 := Lib.hid (H2.out.below (hbn.mono (by have := HZ3.out; omega)))
  replace HB3 := Lib.hid (HB3.out.trans (hbn.mono (by have := HZ3.out; omega)))
  have HZ4 := Lib.hid (show g + 1 ≤ w4.heap.size by have := hbn.size; have := HZ3.out; omega)
  have HW := Lib.hid (Rd.new1 w4 22 (.slice A2 m cap2))
  have hz5 : w2.heap.size ≤ (w4.alloc (.cells #[.slice A2 m cap2] 22)).heap.size := by have := HZ4.out; simp; omega
  clear hbn
  go_wp2_with (at_builtin; refine wpList_append_rd _ rfl (.tmp 21) (.tmp 23) _ rfl rowsW w2.heap.size _ N _ rfl (HO8.out.alloc _) _ (some ⟨w4.heap.size, 0, none⟩) 1 1 _ rfl HW.out (by intro u hu; simp at hu; subst hu; rfl) (by unfold maxLen; omega) (by omega) hz5 ?_; intro D6 c6 w6 ho6 hb6 hg6 _; have HO6 := Lib.hid ho6; have HB6 := Lib.hid hb6; have HR6 := Lib.hid ((HR8.out.ext (below1 w4 _)).kept hg6 (HO8.out.alloc _) jou_ne.2.2); clear ho6 hb6 hg6)
  replace K0 := Lib.hid ((K0.out.alloc (.cells #[.slice A2 m cap2] 22)).below HB6.out (by omega))
  replace H2 := Lib.hid ((H2.out.alloc (by have := HZ4.out; omega) (.cells #[.slice A2 m cap2] 22)).below (HB6.out.mono (by omega)))
  have HB7 := Lib.hid (((HB3.out.alloc (by have := HZ4.out; omega) (.cells #[.slice A2 m cap2] 22))).trans (HB6.out.mono (by omega)))
  have HZ6 := Lib.hid (show g + 1 ≤ w6.heap.size by have := HB6.out.size; simp at this; have := HZ4.out; omega)
  have hrd := RdRows.snoc_own HNL.out HO6.out HR6.out hc2 hm2 H2.out (by have := HZ6.out; omega)
  have hput := rjput_any w6 D6 (N + 1) c6 (ls ++ [p]) w6.heap.size (Nat.le_refl _) hrd (by omega) (by
    intro l hl
    rcases List.mem_append.1 hl with h1 | h1
    · have := HA4.out l h1; omega
    · simp at h1; subst h1; rw [HL2.out]; exact hn2)
  unfold BytP at hput
  rw [HJ3.out, HJ4.out] at hput
  clear hrd HW hz5 HO8 HR8
  by_cases hov : 65535 < m
  · have e1 : Jou.appB b p = [] := by unfold Jou.appB; rw [if_pos (by rw [HL2.out]; exact hov)]
    have e2 : Jou.appE p = 3 := by unfold Jou.appE; rw [if_pos (by rw [HL2.out]; exact hov)]
    rw [e1, e2] at hput
    refine hput.mono ?_
    clear hput e1 e2
    rintro en w7 ⟨D, c, rfl, _, hbn⟩
    have kn := K0.out.below hbn K0.out.lt
    have hb3 := HB7.out.trans (hbn.mono (by have := HZ6.out; omega))
    have q0 := kn.cell 0
    have q1 := kn.cell 1
    have f0 := kn.frozen 0
    have f1 := kn.frozen 1
    have lg := kn.lt
    simp at q0 q1
    clear hbn
    go_wp2_with fail
    have k9 := whole2 kn (.int .u64 0) (.int .u64 0)
    have hb9 := bel2 hb3 (Nat.le_refl g) (.int .u64 0) (.int .u64 0)
    have r0 := k9.cell 0
    have r1 := k9.cell 1
    simp at r0 r1
    clear q0 q1 f0 f1 kn hb3
    generalize (w7.setCell ⟨g, 0, none⟩ (.int .u64 0)).setCell ⟨g, 1, none⟩ (.int .u64 0) = w9 at *
    refine bodyPost_ret (v := .tuple #[.slice none 0 0, .int .i64 0, .agg #[.int .u64 0, .int .u64 0], .int .i64 3]) (by simp [results, Try.results48, go_sem, r0, r1]) rfl ?_
    have hp := HL2.out
    unfold AppP Jou.appB Jou.appK Jou.appN Jou.appS Jou.appE
    rw [HG.out, hp]
    simp only [hov, if_true]
    exact ⟨none, 0, rfl, World.ownsRow_nil _ _ _ _, hb9⟩
  · obtain ⟨S, hS⟩ : ∃ S, Crc.update 0 p = S := ⟨_, rfl⟩
    obtain ⟨Y, hY⟩ : ∃ Y, Jou.appB b p = Y := ⟨_, rfl⟩
    obtain ⟨y, hy⟩ : ∃ y, Y.length = y := ⟨_, rfl⟩
    have e2 : Jou.appE p = 0 := by unfold Jou.appE; rw [if_neg (by rw [HL2.out]; exact hov)]
    rw [hY, hy, e2] at hput
    have HS := Lib.hid hS
    have HY := Lib.hid hY
    have HYL := Lib.hid hy
    refine hput.mono ?_
    clear hput e2 hS hY hy
    rintro en w7 ⟨D, c, rfl, ho7, hbn⟩
    have HO7 := Lib.hid ho7
    replace K0 := Lib.hid (K0.out.below hbn K0.out.lt)
    replace H2 := Lib.hid (H2.out.below (hbn.mono (by have := HZ6.out; omega)))
    replace HB7 := Lib.hid (HB7.out.trans (hbn.mono (by have := HZ6.out; omega)))
    have HZ7 := Lib.hid (show g + 1 ≤ w7.heap.size by have := hbn.size; have := HZ6.out; omega)
    clear ho7 hbn
    go_wp2_with fail
    have hof := rjof_any w7 A2 m cap2 p B (by have := HZ7.out; omega) H2.out hc2 hm2 hn2
    rw [HS.out] at hof
    refine hof.mono ?_
    clear hof
    rintro en w8 ⟨rfl, hbn⟩
    have kn := K0.out.below hbn K0.out.lt
    have hb3 := HB7.out.trans (hbn.mono (by have := HZ7.out; omega))
    replace HO7 := Lib.hid (own_ext HO7.out hbn)
    have q0 := kn.cell 0
    have q1 := kn.cell 1
    have f0 := kn.frozen 0
    have f1 := kn.frozen 1
    have lg := kn.lt
    simp at q0 q1
    clear hbn
    go_wp2_with fail
    have k9 := whole2 kn (.int .u64 (m : Nat)) (.int .u64 (S : Nat))
    have hb9 := bel2 hb3 (Nat.le_refl g) (.int .u64 (m : Nat)) (.int .u64 (S : Nat))
    have r0 := k9.cell 0
    have r1 := k9.cell 1
    simp at r0 r1
    have hfar : ∀ q, D = some ⟨q, 0, none⟩ → q ≠ g := fun q hq => by have h1 := (own_lt HO7.out q hq).1; have h2 := HZ6.out; omega
    have ho9 := own_far (own_far HO7.out (p := ⟨g, 0, none⟩) hfar (.int .u64 (m : Nat))) (p := ⟨g, 1, none⟩) hfar (.int .u64 (S : Nat))
    clear q0 q1 f0 f1 kn hb3 HO7
    generalize (w8.setCell ⟨g, 0, none⟩ (.int .u64 (m : Nat))).setCell ⟨g, 1, none⟩ (.int .u64 (S : Nat)) = w9 at *
    refine bodyPost_ret (v := .tuple #[.slice D y c, .int .i64 (K : Nat), .agg #[.int .u64 (m : Nat), .int .u64 (S : Nat)], .int .i64 0]) (by simp [results, Try.results48, go_sem, r0, r1]) rfl ?_
    have hp := HL2.out
    unfold AppP Jou.appK Jou.appN Jou.appS Jou.appE
    rw [HG.out, hp, HY.out, HYL.out]
    simp only [hov, if_false]
    rw [HKK.out, HS.out]
    exact ⟨D, c, rfl, own_base ho9 (by have := HZ6.out; omega), hb9⟩

set_option maxRecDepth 100000 in
set_option maxHeartbeats 4000000 in
theorem jfew_any (w : World) (A : Option Addr) (N cap : Nat) (ls : List (List UInt8)) (B : Nat) (h : RdRows w B A N ls) (hN : N ≤ 9223372036854775807) (r : Bool) (hr : decide ((∀ a (ha : a < ls.length), a < 11 → ls[a].length ≤ 200) ∧ N ≤ 10) = r) :
    Calls Try.prog 45 #[.slice A N cap] w fun en w' => en = .returned (.bool r) ∧ w = w' := by
  have HR := Lib.hid hr
  have HL := Lib.hid h.1
  have H := Lib.hid h
  clear h hr
  go_enter Try.func45, Try.ntmps45
  go_wp2_with fail
  go_loopw [3] (fun i wr => ∃ j : Nat, j ≤ N ∧ j ≤ 11 ∧ i = .int .i64 j ∧ Hid (∀ a (ha : a < ls.length), a < j → ls[a].length ≤ 200) ∧ wr = w) (fun i _ => N - (intOf i).toNat)
  case atStart => exact ⟨0, by omega, by omega, rfl, fun a ha h0 => absurd h0 (by omega), rfl⟩
  case round =>
    obtain ⟨j, hj, hj11, rfl, HA, rfl⟩ := hrel
    by_cases hlt : j < N ∧ j < 11
    · obtain ⟨hlt, hl11⟩ := hlt
      have hjl : j < ls.length := by have := HL.out; omega
      obtain ⟨b1, o1, A1, m, c1, rfl, hb1, hc1, hm1, hm2, hr1⟩ := H.out.2 j hlt
      have hg : ls.getD j [] = ls[j] := by simp [List.getD, hjl]
      rw [hg] at hr1
      have HM := Lib.hid hr1.blen
      have hd : decide ((j : Int) < (N : Int)) = true := by simp; omega
      have hd2 : decide ((j : Int) < 11) = true := by simp; omega
      have d1 : (0 : Int) ≤ (j : Int) := by omega
      have d2 : (j : Int) < (N : Int) := by omega
      clear hr1 hm1 hg
      by_cases hov : 200 < m
      · have t1 : decide ((200 : Int) < (m : Int)) = true := by simp; omega
        have HRR := Lib.hid (show false = r from by
          rw [← HR.out]
          symm
          rw [decide_eq_false_iff_not]
          intro h0
          have := h0.1 j hjl hl11
          rw [HM.out] at this
          omega)
        go_wp2_with fail
        go_ret
        exact ⟨by rw [← HRR.out]; rfl, rfl⟩
      · have t1 : decide ((200 : Int) < (m : Int)) = false := by simp; omega
        have HA2 := Lib.hid (show ∀ a (ha : a < ls.length), a < j + 1 → ls[a].length ≤ 200 from fun a ha h0 => by
          rcases Nat.lt_or_eq_of_le (Nat.le_of_lt_succ h0) with h1 | h1
          · exact HA.out a ha h1
          · subst h1
            rw [HM.out]
            omega)
        go_wp2_with fail
        go_roundw
        case rel => exact ⟨j + 1, by omega, by omega, by go_num, HA2, by first | rfl | trivial⟩
        case measure => simp [intOf] <;> omega
    · have HRR := Lib.hid (show decide ((N : Int) ≤ 10) = r from by
        rw [← HR.out]
        apply decide_eq_decide.2
        constructor
        · intro h0
          exact ⟨fun a ha h1 => HA.out a ha (by have := HL.out; omega), by omega⟩
        · intro h0
          have := h0.2
          omega)
      by_cases h1 : j < N
      · have hd : decide ((j : Int) < (N : Int)) = true := by simp; omega
        have hd2 : decide ((j : Int) < 11) = false := by simp; omega
        go_wp2_with fail
        go_ret
        exact ⟨by rw [← HRR.out]; rfl, rfl⟩
      · have hd : decide ((j : Int) < (N : Int)) = false := by simp; omega
        go_wp2_with fail
        go_ret
        exact ⟨by rw [← HRR.out]; rfl, rfl⟩

set_option maxRecDepth 100000 in
set_option maxHeartbeats 4000000 in
theorem rows_true (w : World) (A : Option Addr) (N cap : Nat) (ls : List (List UInt8)) (A' : Option Addr) (cap' : Nat) (B B' : Nat) (hB : B ≤ w.heap.size) (hB' : B' ≤ w.heap.size) (h : RdRows w B A N ls) (h' : RdRows w B' A' N ls) (hN : N ≤ 10000000) (hf : ∀ l ∈ ls, l.length ≤ 140737488351232) :
    Calls Try.prog 55 #[.slice A N cap, .slice A' N cap'] w fun en w' => en = .returned (.bool true) ∧ Below w.heap.size w w' := by
  have HL := Lib.hid h.1
  have H := Lib.hid h
  have H' := Lib.hid h'
  have HF := Lib.hid hf
  have dn : (((N : Nat) : Int) != (N : Int)) = false := by simp
  clear h h' hf
  go_enter Try.func55, Try.ntmps55
  go_wp2_with fail
  go_loopw [5] (fun i wr => ∃ j : Nat, j ≤ N ∧ i = .int .i64 j ∧ Ext w wr) (fun i _ => N - (intOf i).toNat)
  case atStart => exact ⟨0, by omega, rfl, Below.refl _ _⟩
  case round =>
    obtain ⟨j, hj, rfl, hx⟩ := hrel
    by_cases hlt : j < N
    · have hjl : j < ls.length := by have := HL.out; omega
      obtain ⟨b1, o1, A1, m, c1, rfl, hb1, hc1, _, _, hr1⟩ := (H.out.below (hx.mono hB)).2 j hlt
      obtain ⟨b2, o2, A2, m2, c2, rfl, hb2, hc2, _, _, hr2⟩ := (H'.out.below (hx.mono hB')).2 j hlt
      have hg : ls.getD j [] = ls[j] := by simp [List.getD, hjl]
      rw [hg] at hr1 hr2
      obtain rfl : m = m2 := hr1.blen.symm.trans hr2.blen
      have hle := HF.out ls[j] (List.getElem_mem hjl)
      rw [hr1.blen] at hle
      have HB1 := Lib.hid (Nat.le_trans hB hx.size)
      have HB2 := Lib.hid (Nat.le_trans hB' hx.size)
      have L1 := Lib.hid (Nat.lt_of_lt_of_le hb1 HB1.out)
      have L2 := Lib.hid (Nat.lt_of_lt_of_le hb2 HB2.out)
      have d : decide ((j : Int) < (N : Int)) = true := by simp; omega
      have d1 : (0 : Int) ≤ (j : Int) := by omega
      have d2 : (j : Int) < (N : Int) := by omega
      have P1 := Lib.hid hc1
      have P2 := Lib.hid hc2
      have X1 := Lib.hid hr1
      have X2 := Lib.hid hr2
      clear hg hc1 hc2 hr1 hr2 hb1 hb2
      go_wp2_with fail
      refine wp_region_grow (fun k' => List.lookup k' [(3, .fix (.slice A1 m c1)), (7, .fix (.slice A2 m c2)), (8, .fix (.bool true))]) (by as_aux_lemma => kernel_rfl) (by as_aux_lemma => kernel_rfl) ?_
      repeat (refine wpGrow_pure rfl (fun K hK => ?_); go_simp; refine hK.out _ ?_; clear hK K)
      refine wpGrow_eff _ rfl (fun wx he hcl => ?_) (fun _ K hK => ?_) rfl
      · clear hcl
        have hq := (he.cell (p := ⟨b1, o1 + j, none⟩) L1.out).trans P1.out
        go_simp
        exact Below.refl _ _
      go_simp
      refine hK.out _ ?_
      clear hK K
      repeat (refine wpGrow_pure rfl (fun K hK => ?_); go_simp; refine hK.out _ ?_; clear hK K)
      refine wpGrow_eff _ rfl (fun wx he hcl => ?_) (fun _ K hK => ?_) rfl
      · clear hcl
        have hq := (he.cell (p := ⟨b2, o2 + j, none⟩) L2.out).trans P2.out
        go_simp
        exact Below.refl _ _
      go_simp
      refine hK.out _ ?_
      clear hK K
      repeat (refine wpGrow_pure rfl (fun K hK => ?_); go_simp; refine hK.out _ ?_; clear hK K)
      refine wpGrow_eff _ rfl (fun wx he hcl => ?_) (fun _ K hK => ?_) rfl
      · clear hcl
        have hcon := same_any wx A1 m c1 ls[j] A2 m c2 ls[j] B B' (Nat.le_trans HB1.out he.size) (Nat.le_trans HB2.out he.size) (X1.out.below (he.mono HB1.out)) (X2.out.below (he.mono HB2.out)) (by omega) (by omega) true (by simp)
        go_simp
        all_goals exact hcon
      go_simp
      refine hK.out _ ?_
      clear hK K
      repeat (refine wpGrow_pure rfl (fun K hK => ?_); go_simp; refine hK.out _ ?_; clear hK K)
      refine wpGrow_nil fun wx he hfin => ?_
      clear hfin
      have hxx := Ext.trans hx he
      clear he hx
      go_wp2_with fail
      go_roundw
      case rel => exact ⟨j + 1, by omega, by go_num, hxx⟩
      case measure => simp [intOf] <;> omega
    · obtain rfl : N = j := by omega
      have d : decide ((N : Int) < (N : Int)) = false := by simp
      go_wp2_with fail
      go_ret
      exact ⟨rfl, hx⟩

end Go.Proofs.Ytnncohajlmbedaa
