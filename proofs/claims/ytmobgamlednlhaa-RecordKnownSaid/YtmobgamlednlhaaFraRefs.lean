/-
  Frames: what the document's functions write.
-/
import Derived.Test.YtmobgamlednlhaaFraFuns
namespace Go.Proofs.Ytmobgamlednlhaa
open Go.RowKit
attribute [local go_sem] match_undef Oper.growAt Oper.growUpon GSpec.fix GSpec.row GSpec.wh GSpec.own
attribute [local irreducible] wpList
theorem one_byte (z : Int) : ∀ u ∈ [Value.int .u8 z], u.oneCell' = true := by
  intro u hu
  simp at hu
  subst hu
  rfl
theorem div_cast (S : Nat) (k : Nat) : ((S / 256 ^ k : Nat) : Int) / 256 = ((S / 256 ^ (k + 1) : Nat) : Int) := by
  rw [Nat.pow_succ, ← Nat.div_div_eq_div_mul]
  omega
theorem sum4_snoc (S j : Nat) (h : j < 4) : (Fra.sum4 S).take (j + 1) = (Fra.sum4 S).take j ++ [UInt8.ofNat (S / 256 ^ j % 256)] := by
  have : j = 0 ∨ j = 1 ∨ j = 2 ∨ j = 3 := by omega
  rcases this with rfl | rfl | rfl | rfl <;> simp [Fra.sum4]

set_option maxRecDepth 100000 in
set_option maxHeartbeats 4000000 in
theorem rbytes_any (w : World) (k : UInt8) (A : Option Addr) (n cap : Nat) (b : List UInt8) (B : Nat) (hB : B ≤ w.heap.size) (h : Rd w B 1 A n (byts b)) (hn : n ≤ 140737488351232) :
    Calls Try.prog 39 #[.agg #[.int .u8 (k.toNat : Nat), .slice A n cap]] w (Fresh w.heap.size 5 1 (Fra.bytes k b).length (byts (Fra.bytes k b)) w) := by
  have HL := Lib.hid h.blen
  have HN := Lib.hid hn
  have HB := Lib.hid hB
  have H := Lib.hid h
  clear h hB
  obtain ⟨M, hM⟩ : ∃ M, (Var.put n).length = M := ⟨_, rfl⟩
  have hM11 : M ≤ 10 := by rw [← hM]; exact (Var.put_length n).2
  have HM := Lib.hid hM
  clear hM
  have hwr : IntKind.u64.wrap (n : Int) = (n : Int) := by rw [IntKind.wrap_u64]; omega
  go_enter Try.func39, Try.ntmps39
  go_wp2_with fail
  have hs1 : (w.alloc (.cells #[.int .u8 (k.toNat : Nat), .slice A n cap] 44)).heap.size = w.heap.size + 1 := by simp
  have hb := (below1 w (.cells #[.int .u8 (k.toNat : Nat), .slice A n cap] 44)).alloc (by rw [hs1]; omega) (.cells #[.int .u8 (k.toNat : Nat)] 5)
  have k1 := (Whole.new w 44 #[.int .u8 (k.toNat : Nat), .slice A n cap]).alloc (.cells #[.int .u8 (k.toNat : Nat)] 5)
  have ho0 : World.ownsRow ((w.alloc (.cells #[.int .u8 (k.toNat : Nat), .slice A n cap] 44)).alloc (.cells #[.int .u8 (k.toNat : Nat)] 5)) (w.heap.size + 1) 5 1 (.slice (some ⟨(w.alloc (.cells #[.int .u8 (k.toNat : Nat), .slice A n cap] 44)).heap.size, 0, none⟩) 1 1) 1 (byts [k]) := own_new (base := w.heap.size + 1) (w := w.alloc (.cells #[.int .u8 (k.toNat : Nat), .slice A n cap] 44)) 5 (byts [k]) (by rw [hs1]; omega) (show (1 : Nat) ≤ maxLen from by unfold maxLen; decide)
  have hr1 := (H.out.alloc HB.out (.cells #[.int .u8 (k.toNat : Nat), .slice A n cap] 44)).alloc (by rw [hs1]; have := HB.out; omega) (.cells #[.int .u8 (k.toNat : Nat)] 5)
  rw [hs1] at ho0
  have hgt := (below1 (w.alloc (.cells #[.int .u8 (k.toNat : Nat), .slice A n cap] 44)) (.cells #[.int .u8 (k.toNat : Nat)] 5)).size
  rw [hs1] at hgt
  generalize World.alloc (World.alloc w (.cells #[.int .u8 (k.toNat : Nat), .slice A n cap] 44)) (.cells #[.int .u8 (k.toNat : Nat)] 5) = w1 at hb k1 ho0 hr1 hgt ⊢
  obtain ⟨G, hG⟩ : ∃ G, w.heap.size + 1 = G := ⟨_, rfl⟩
  rw [hG] at ho0 hgt ⊢
  have HG := Lib.hid hG
  have HO0 := Lib.hid ho0
  have HR := Lib.hid hr1
  have K1 := Lib.hid k1
  have HBG := Lib.hid (show B ≤ G from by have := HB.out; omega)
  clear ho0 hr1 k1 hs1 hG
  have hput := refPut_any w1 n (by omega)
  rw [HM.out] at hput
  refine hput.mono ?_
  clear hput
  rintro en w2 ⟨D2, c2, rfl, ho2, hb2⟩
  have HO2 := Lib.hid ho2
  replace HO0 := Lib.hid (own_ext HO0.out hb2)
  replace HR := Lib.hid (HR.out.below (hb2.mono (by have := HBG.out; omega)))
  replace K1 := Lib.hid (K1.out.below hb2 K1.out.lt)
  have hbG : Below G w2 w2 := Below.refl _ _
  have hgt2 := Nat.le_trans hgt hb2.size
  replace hb := hb.trans (hb2.mono hb.size)
  clear ho2 hb2 hwr
  go_wp2_with (at_builtin; first
    | (refine wpList_append_rd _ rfl (.tmp 9) (.tmp 14) _ rfl bytesV G _ 1 _ rfl HO0.out w2.heap.size D2 M c2 _ rfl (Rd.of_own HO2.out) (byts_one _) (by unfold maxLen; omega) (by omega) hgt2 ?_
       intro D3 c3 w3 ho3 hb3 _ _
       rw [← byts_append] at ho3
       have HO3 := Lib.hid ho3
       replace HR := Lib.hid (HR.out.below (hb3.mono HBG.out))
       have q1 := (hb3.cell (p := ⟨w.heap.size, 1, none⟩) (by show w.heap.size < G; have := HG.out; omega)).trans (K1.out.cell 1)
       have hz3 := Nat.le_trans hgt2 hb3.size
       replace hb := hb.trans (hb3.mono (by have := HG.out; omega))
       clear ho3 hb3)
    | (refine wpList_append_rd _ rfl (.tmp 16) (.tmp 18) _ rfl bytesV G _ (1 + M) _ rfl HO3.out B A n cap _ rfl HR.out (byts_one _) (by unfold maxLen; omega) (by omega) hz3 ?_
       intro D4 c4 w4 ho4 hb4 _ _
       rw [← byts_append] at ho4
       have hz4 := Nat.le_trans hz3 hb4.size
       replace hb := hb.trans (hb4.mono (by have := HG.out; omega))
       clear hb4))
  obtain ⟨S, hS⟩ : ∃ S, Crc.update 0 (Fra.up k b) = S := ⟨_, rfl⟩
  have hSl : S < 4294967296 := by rw [← hS]; exact Crc.update_lt (by omega) _
  have eup : [k] ++ Var.put n ++ b = Fra.up k b := by unfold Fra.up Fra.head; rw [HL.out]; rfl
  rw [eup] at ho4
  have HS := Lib.hid hS
  have HO4 := Lib.hid ho4
  clear hS ho4 eup q1
  have hsum := refSum_any _ _ 1 1 [Fra.up k b] (w4.heap.size + 1) (by simp) (RdRows.one w4 27 (Nat.le_refl _) (own_cap HO4.out).1 (own_cap HO4.out).2 (Rd.of_own HO4.out)) (by unfold maxLen; omega) (by simp only [List.flatten_cons, List.flatten_nil, List.append_nil, Fra.up_length, Fra.head_length, HL.out, HM.out]; omega)
  simp only [List.flatten_cons, List.flatten_nil, List.append_nil, HS.out] at hsum
  refine hsum.mono ?_
  clear hsum
  rintro en w5 ⟨rfl, hb5⟩
  replace hb5 := (below1 w4 (.cells #[.slice D4 (1 + M + n) c4] 27)).trans (hb5.mono (by simp))
  replace HO4 := Lib.hid (own_ext HO4.out hb5)
  have hz5 := Nat.le_trans hz4 hb5.size
  replace hb := hb.trans (hb5.mono hb.size)
  clear hb5
  go_wp2_with fail
  obtain ⟨X, hX⟩ : ∃ X, 1 + M + n = X := ⟨_, rfl⟩
  have hXl : X ≤ 140737488351300 := by omega
  rw [hX] at HO4 ⊢
  have HX := Lib.hid hX
  clear hX HR HO3 HO2 HO0 K1 hbG hgt2 hz3 hz4
  go_loopw [3, 4, 5] (fun v s i wr => ∃ (j : Nat) (D : Option Addr) (c : Nat), j ≤ 4 ∧ i = .int .i64 j ∧ s = .int .u32 (S / 256 ^ j : Nat) ∧ v = .slice D (X + j) c ∧ Hid (wr.ownsRow G 5 1 (.slice D (X + j) c) (X + j) (byts (Fra.up k b ++ (Fra.sum4 S).take j))) ∧ G ≤ wr.heap.size ∧ Below w.heap.size w wr) (fun _ _ i _ => 4 - (intOf i).toNat)
  case atStart =>
    refine ⟨0, D4, c4, by omega, rfl, by simp, rfl, ?_, hz5, hb⟩
    rw [List.take_zero, List.append_nil]
    exact HO4
  case round =>
    obtain ⟨j, D, c, hj, rfl, rfl, rfl, HO, hz, hb⟩ := hrel
    obtain ⟨q, hq⟩ : ∃ q, S / 256 ^ j = q := ⟨_, rfl⟩
    have hql : q < 4294967296 := by rw [← hq]; exact Nat.lt_of_le_of_lt (Nat.div_le_self _ _) hSl
    rw [hq]
    by_cases hlt : j < 4
    · have HN4 := Lib.hid (sum4_snoc S j hlt)
      have HQ := Lib.hid hq
      have hd : decide ((j : Int) < 4) = true := by simp; omega
      have e8 : [Value.int .u8 ((q : Int) % 256)] = byts [UInt8.ofNat (q % 256)] := by
        simp only [byts, List.map_cons, List.map_nil, UInt8.toNat_ofNat', Nat.mod_eq_of_lt (show q % 256 < 2 ^ 8 by omega)]
        rfl
      have HE8 := Lib.hid e8
      clear hq e8
      go_wp2_with (at_builtin; refine wpList_append_rd _ rfl (.tmp 27) (.tmp 31) _ rfl bytesV G _ (X + j) _ rfl (HO.out.alloc _) (wr.heap.size + 1) (some ⟨wr.heap.size, 0, none⟩) 1 1 _ rfl (Rd.new1 wr 5 (.int .u8 ((q : Int) % 256))) (one_byte _) (by unfold maxLen; omega) (by omega) (Nat.le_trans hz (below1 wr _).size) ?_; intro D5 c5 w6 ho6 hb6 _ _)
      rw [HE8.out, ← byts_append, List.append_assoc, ← HQ.out, ← HN4.out] at ho6
      have HO6 := Lib.hid ho6
      have hz6 : G ≤ w6.heap.size := Nat.le_trans hz (Nat.le_trans (below1 wr _).size hb6.size)
      have hb7 := (hb.alloc hb.size _).trans (hb6.mono (show w.heap.size ≤ G by have := HG.out; omega))
      clear ho6 hb6
      go_roundw
      case rel => exact ⟨j + 1, D5, c5, by omega, by go_num, by rw [← div_cast, HQ.out], rfl, HO6, hz6, hb7⟩
      case measure => simp [intOf] <;> omega
    · obtain rfl : j = 4 := by omega
      have hd : decide (((4 : Nat) : Int) < 4) = false := by simp
      go_wp2_with fail
      go_ret
      have e4 : (Fra.bytes k b).length = X + 4 := by rw [Fra.bytes_length, Fra.head_length, HL.out, HM.out, ← HX.out]
      rw [e4]
      refine ⟨D, c, rfl, own_base ?_ (show w.heap.size ≤ G by have := HG.out; omega), hb⟩
      have := HO.out
      rw [List.take_of_length_le (by simp [Fra.sum4])] at this
      unfold Fra.bytes
      rw [HS.out]
      exact this

set_option maxRecDepth 100000 in
set_option maxHeartbeats 4000000 in
theorem rput_any (w : World) (k : UInt8) (A : Option Addr) (n cap : Nat) (b : List UInt8) (B : Nat) (hB : B ≤ w.heap.size) (h : Rd w B 1 A n (byts b)) (hn : n ≤ 140737488351232) :
    Calls Try.prog 20 #[.agg #[.int .u8 (k.toNat : Nat), .slice A n cap]] w fun en w' => ∃ D c, en = .returned (.tuple #[.slice D (Fra.putB k b).length c, .int .i64 (Fra.putE b : Nat)]) ∧ w'.ownsRow w.heap.size 5 1 (.slice D (Fra.putB k b).length c) (Fra.putB k b).length (byts (Fra.putB k b)) ∧ Below w.heap.size w w' := by
  have HL := Lib.hid h.blen
  have HN := Lib.hid hn
  have HB := Lib.hid hB
  have H := Lib.hid h
  clear h hB
  by_cases hbig : 65535 < n
  · have e1 : Fra.putB k b = [] := by unfold Fra.putB; rw [if_pos (by rw [HL.out]; exact hbig)]
    have e2 : Fra.putE b = 3 := by unfold Fra.putE; rw [if_pos (by rw [HL.out]; exact hbig)]
    rw [e1, e2]
    clear e1 e2
    go_enter Try.func20, Try.ntmps20
    go_wp2_with fail
    go_ret2
    exact ⟨none, 0, rfl, World.ownsRow_nil _ _ _ _, below1 _ _⟩
  · have e1 : Fra.putB k b = Fra.bytes k b := by unfold Fra.putB; rw [if_neg (by rw [HL.out]; exact hbig)]
    have e2 : Fra.putE b = 0 := by unfold Fra.putE; rw [if_neg (by rw [HL.out]; exact hbig)]
    rw [e1, e2]
    clear e1 e2
    go_enter Try.func20, Try.ntmps20
    go_wp2_with fail
    have HR1 := Lib.hid (H.out.alloc HB.out (.cells #[.int .u8 (k.toNat : Nat), .slice A n cap] 44))
    have hb := below1 w (.cells #[.int .u8 (k.toNat : Nat), .slice A n cap] 44)
    refine (rbytes_any _ k A n cap b B (Nat.le_trans HB.out hb.size) HR1.out HN.out).mono ?_
    rintro en w2 ⟨D, c, rfl, ho, hb2⟩
    have HO := Lib.hid (own_base ho hb.size)
    replace hb := hb.trans (hb2.mono hb.size)
    clear ho hb2
    go_wp2_with fail
    go_ret2
    exact ⟨D, c, rfl, HO.out, hb⟩

end Go.Proofs.Ytmobgamlednlhaa
