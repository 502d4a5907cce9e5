/-
  Numbers in groups: what the document's functions compute.
-/
import Derived.Test.YtmobgamlednlhaaVarMore
namespace Go.Proofs.Ytmobgamlednlhaa
open Go.RowKit
set_option maxHeartbeats 400000 in
set_option maxRecDepth 100000 in
theorem groups_any (w : World) (n : Nat) (hn : n < 18446744073709551616) :
    Calls Try.prog 40 #[.int .u64 (n : Nat)] w fun e w' => e = .returned (.int .i64 ((Var.put n).length : Nat)) ∧ w = w' := by
  have HN := Lib.hid hn
  clear hn
  go_enter Try.func40, Try.ntmps40
  go_wp2_with fail
  go_loop [0, 3] (fun x i => ∃ m k : Nat, x = .int .u64 m ∧ i = .int .i64 k ∧ k ≤ 10 ∧ Hid (m ≤ n ∧ (Var.put n).length + 1 = (Var.put m).length + k)) (fun x _ => (intOf x).toNat)
  case atStart => exact ⟨n, 1, rfl, rfl, by omega, ⟨Nat.le_refl _, rfl⟩⟩
  case round =>
    obtain ⟨m, k, rfl, rfl, hk, HR⟩ := hrel
    have hm64 : m < 18446744073709551616 := by have := HN.out; have := HR.out.1; omega
    by_cases hm : 128 ≤ m
    · have hk2 : k ≤ 9 := by
        have h1 := (Var.put_length n).2
        have h2 := Var.put_big hm (by have := HN.out; have := HR.out.1; omega)
        have h3 := HR.out.2
        rw [h2, List.length_cons] at h3
        have h4 := (Var.put_length (m / 128)).1
        omega
      have hd : decide ((0 : Int) < (m : Int) / 128) = true := by simp; omega
      go_wp2_with fail
      go_round
      case rel =>
        refine ⟨m / 128, k + 1, by go_num, by go_num, by omega, ⟨by have := HR.out.1; omega, ?_⟩⟩
        have h3 := HR.out.2
        rw [Var.put_big hm (by have := HN.out; have := HR.out.1; omega), List.length_cons] at h3
        omega
      case measure => simp [intOf]; omega
    · have hd : decide ((0 : Int) < (m : Int) / 128) = false := by simp; omega
      go_wp2_with fail
      go_ret
      refine ⟨ret_eq ?_, rfl⟩
      have h3 := HR.out.2
      rw [Var.put_small (n := m) (by omega), List.length_singleton] at h3
      omega
set_option maxHeartbeats 400000 in
set_option maxRecDepth 100000 in
theorem refPut_any (w : World) (n : Nat) (hn : n < 18446744073709551616) :
    Calls Try.prog 28 #[.int .u64 (n : Nat)] w (Fresh w.heap.size 5 1 (Var.put n).length (byts (Var.put n)) w) := by
  have HN := Lib.hid hn
  have hK10 := (Var.put_length n).2
  have hK1 := (Var.put_length n).1
  obtain ⟨K, hK⟩ : ∃ K, K = (Var.put n).length := ⟨_, rfl⟩
  rw [← hK] at hK10 hK1
  have HK := Lib.hid hK
  clear hn
  go_enter Try.func28, Try.ntmps28
  go_wp2_with fail
  refine (groups_any w n HN.out).mono ?_
  rintro e w1 ⟨rfl, rfl⟩
  rw [← hK]
  clear hK
  go_wp2_with fail
  go_loopw [0, 3, 5] (fun x v i wr => ∃ (m k : Nat) (acc : List UInt8) (D : Option Addr) (c : Nat), x = .int .u64 m ∧ v = .slice D k c ∧ i = .int .i64 k ∧ k ≤ K ∧ Hid (m ≤ n ∧ acc.length = k ∧ (k < K → Var.put n = acc ++ Var.put m) ∧ (k = K → Var.put n = acc) ∧ wr.ownsRow w.heap.size 5 1 (.slice D k c) k (byts acc)) ∧ Below w.heap.size w wr) (fun _ _ i _ => K - (intOf i).toNat)
  case atStart => exact ⟨n, 0, [], none, 0, rfl, rfl, rfl, by omega, ⟨Nat.le_refl _, rfl, fun _ => rfl, fun h => by omega, World.ownsRow_nil _ _ _ _⟩, Below.refl _ _⟩
  case round =>
    obtain ⟨m, k, acc, D, c, rfl, rfl, rfl, hk, HR, hb⟩ := hrel
    by_cases hlt : k < K
    · have hd : decide ((k : Int) < (K : Int)) = true := by simp; omega
      have hmn : m < 18446744073709551616 := by have := HN.out; have := HR.out.1; omega
      have hlen : Hid (K = k + (Var.put m).length) := by
        show _ = _
        rw [HK.out, HR.out.2.2.1 hlt, List.length_append, HR.out.2.1]
      by_cases hl : k + 1 < K
      · have hd2 : decide ((k : Int) + 1 < (K : Int)) = true := by simp; omega
        have hm : 128 ≤ m := by
          refine Decidable.byContradiction fun h => ?_
          have := hlen.out
          rw [Var.put_small (by omega), List.length_singleton] at this
          omega
        have hmod : Value.int .u8 ((m : Int) % 128 + 128) = Value.int .u8 (((UInt8.ofNat (m % 128 + 128)).toNat : Nat) : Int) := int_eq (by rw [UInt8.toNat_ofNat']; omega)
        have HE := Lib.hid hmod
        clear hmod
        go_wp2_with (at_builtin; refine wpList_append_rd _ rfl (.tmp 23) (.tmp 25) _ rfl bytesV w.heap.size _ k _ rfl (HR.out.2.2.2.2.alloc _) (wr.heap.size + 1) (some ⟨wr.heap.size, 0, none⟩) 1 1 _ rfl (Rd.new1 wr _ _) (by intro u hu; simp at hu; subst hu; rfl) (by unfold maxLen; omega) (by omega) (by have := hb.size; simp; omega) ?_; intro D2 c2 w2 ho2 hb2 _ _)
        rw [HE.out] at ho2
        have HO := Lib.hid ho2
        have hb3 : Below w.heap.size w w2 := (hb.alloc hb.size _).trans hb2
        clear ho2 hb2
        go_wp2_with fail
        go_roundw
        case rel =>
          obtain ⟨h1, h2, h3, h4, h5⟩ := HR.out
          refine ⟨m / 128, k + 1, acc ++ [UInt8.ofNat (m % 128 + 128)], D2, c2, by go_num, rfl, by go_num, by omega, ⟨by omega, by simp [h2], fun _ => ?_, fun h => by omega, ?_⟩, hb3⟩
          · rw [h3 hlt, Var.put_big hm hmn, List.append_assoc]; rfl
          · rw [byts_append]; exact HO.out
        case measure => simp [intOf]; omega
      · have hd2 : decide ((k : Int) + 1 < (K : Int)) = false := by simp; omega
        have hm : m < 128 := by
          refine Decidable.byContradiction fun h => ?_
          have := hlen.out
          rw [Var.put_big (by omega) hmn, List.length_cons] at this
          have := (Var.put_length (m / 128)).1
          omega
        have hmod : Value.int .u8 (m : Int) = Value.int .u8 (((UInt8.ofNat m).toNat : Nat) : Int) := int_eq (by rw [UInt8.toNat_ofNat']; omega)
        have HE := Lib.hid hmod
        clear hmod
        have hmm : (m : Int) % 128 = m := by omega
        go_wp2_with (at_builtin; refine wpList_append_rd _ rfl (.tmp 23) (.tmp 25) _ rfl bytesV w.heap.size _ k _ rfl (HR.out.2.2.2.2.alloc _) (wr.heap.size + 1) (some ⟨wr.heap.size, 0, none⟩) 1 1 _ rfl (Rd.new1 wr _ _) (by intro u hu; simp at hu; subst hu; rfl) (by unfold maxLen; omega) (by omega) (by have := hb.size; simp; omega) ?_; intro D2 c2 w2 ho2 hb2 _ _)
        rw [HE.out] at ho2
        have HO := Lib.hid ho2
        have hb3 : Below w.heap.size w w2 := (hb.alloc hb.size _).trans hb2
        clear ho2 hb2
        go_wp2_with fail
        go_roundw
        case rel =>
          obtain ⟨h1, h2, h3, h4, h5⟩ := HR.out
          refine ⟨m / 128, k + 1, acc ++ [UInt8.ofNat m], D2, c2, by go_num, rfl, by go_num, by omega, ⟨by omega, by simp [h2], fun h => by omega, fun _ => ?_, ?_⟩, hb3⟩
          · rw [h3 hlt, Var.put_small hm]
          · rw [byts_append]; exact HO.out
        case measure => simp [intOf]; omega
    · obtain rfl : k = K := by omega
      have HP : Hid (Var.put n = acc) := HR.out.2.2.2.1 rfl
      go_wp2_with fail
      go_ret
      obtain ⟨h1, h2, h3, h4, h5⟩ := HR.out
      rw [HP.out]
      exact Fresh.of h2 h5 hb
set_option maxHeartbeats 400000 in
set_option maxRecDepth 100000 in
theorem refAll_any (w : World) (A : Option Addr) (n cap : Nat) (l : List UInt64) (B : Nat) (hB : B ≤ w.heap.size) (h : Rd w B 1 A n (nums l)) (hn : n ≤ 100000) :
    Calls Try.prog 23 #[.slice A n cap] w (Fresh w.heap.size 5 1 (puts l).length (byts (puts l)) w) := by
  have H := Lib.hid h
  clear h
  go_enter Try.func23, Try.ntmps23
  go_wp2_with fail
  go_loopw [3, 4] (fun v i wr => ∃ (k L : Nat) (D : Option Addr) (c : Nat), k ≤ n ∧ i = .int .i64 k ∧ v = .slice D L c ∧ Hid ((puts (l.take k)).length = L ∧ wr.ownsRow w.heap.size 5 1 (.slice D L c) L (byts (puts (l.take k)))) ∧ Below w.heap.size w wr) (fun _ i _ => n - (intOf i).toNat)
  case atStart => exact ⟨0, 0, none, 0, by omega, rfl, rfl, ⟨rfl, World.ownsRow_nil _ _ _ _⟩, Below.refl _ _⟩
  case round =>
    obtain ⟨k, L, D, c, hk, rfl, rfl, HR, hb⟩ := hrel
    have hL : L ≤ 10 * k := by
      have h1 := puts_le (l.take k)
      rw [HR.out.1, List.length_take] at h1
      omega
    by_cases hlt : k < n
    · obtain ⟨b, o, hkl, rfl, hbB, hcell⟩ := (H.out.below (hb.mono hB)).num hlt
      have hd : decide ((k : Int) < (n : Int)) = true := by simp; omega
      have hk1 : (0 : Int) ≤ (k : Int) := by omega
      have hk2 : (k : Int) < (n : Int) := by omega
      obtain ⟨x, hx⟩ : ∃ x, x = l[k].toNat := ⟨_, rfl⟩
      have hxl : x < 18446744073709551616 := by rw [hx]; exact l[k].toNat_lt
      rw [← hx] at hcell
      have HX := Lib.hid hx
      have HL := Lib.hid hxl
      clear hx hxl
      go_wp2_with fail
      refine (refPut_any wr x HL.out).mono ?_
      rintro e w1 ⟨D1, c1, rfl, ho1, hb1⟩
      have hp := (Var.put_length x).2
      obtain ⟨M, hM⟩ : ∃ M, M = (Var.put x).length := ⟨_, rfl⟩
      rw [← hM] at ho1 hp ⊢
      have HM := Lib.hid hM
      have HO1 := Lib.hid ho1
      have he1 : Below wr.heap.size wr w1 := hb1
      clear ho1 hM
      go_wp2_with (at_builtin; refine wpList_append_rd _ rfl (.tmp 11) (.tmp 16) _ rfl bytesV w.heap.size _ L _ rfl (own_ext HR.out.2 he1) w1.heap.size D1 M c1 _ rfl (Rd.of_own HO1.out) (byts_one _) (by unfold maxLen; omega) (by omega) (by have := hb.size; have := he1.size; omega) ?_; intro D2 c2 w2 ho2 hb2 _ _)
      have HO2 := Lib.hid ho2
      have hb3 : Below w.heap.size w w2 := (hb.trans (he1.mono hb.size)).trans hb2
      clear ho2
      go_wp2_with fail
      go_roundw
      case rel =>
        have e1 : puts (l.take (k + 1)) = puts (l.take k) ++ Var.put x := by rw [puts_take hkl, HX.out]
        exact ⟨k + 1, L + M, D2, c2, by omega, by go_num, rfl, ⟨by rw [e1, List.length_append, HR.out.1, HM.out], by rw [e1, byts_append]; exact HO2.out⟩, hb3⟩
      case measure => simp [intOf]; omega
    · obtain rfl : k = n := by omega
      go_wp2_with fail
      go_ret
      rw [List.take_of_length_le (by have := H.out.nlen; omega)] at HR
      exact Fresh.of HR.out.1 HR.out.2 hb
set_option maxHeartbeats 400000 in
set_option maxRecDepth 100000 in
theorem refText_any (w : World) (s : ByteArray) (hs : s.size ≤ 100000) :
    Calls Try.prog 26 #[.string s] w (Fresh w.heap.size 5 1 (Var.put s.size ++ s.data.toList).length (byts (Var.put s.size ++ s.data.toList)) w) := by
  go_enter Try.func26, Try.ntmps26
  go_wp2_with fail
  refine (refPut_any w s.size (by omega)).mono ?_
  rintro e w1 ⟨D1, c1, rfl, ho1, hb1⟩
  have hp := (Var.put_length s.size).2
  obtain ⟨M, hM⟩ : ∃ M, M = (Var.put s.size).length := ⟨_, rfl⟩
  rw [← hM] at ho1 hp ⊢
  have HM := Lib.hid hM
  have HO1 := Lib.hid ho1
  have hz := s.size_data
  clear ho1 hM
  go_wp2_with fail
  go_loopw [3, 4] (fun v i wr => ∃ (k : Nat) (D : Option Addr) (c : Nat), k ≤ s.size ∧ i = .int .i64 k ∧ v = .slice D (M + k) c ∧ Hid (wr.ownsRow w.heap.size 5 1 (.slice D (M + k) c) (M + k) (byts (Var.put s.size ++ s.data.toList.take k))) ∧ Below w.heap.size w wr) (fun _ i _ => s.size - (intOf i).toNat)
  case atStart => exact ⟨0, D1, c1, by omega, rfl, rfl, by show World.ownsRow _ _ _ _ _ _ _; simpa using HO1.out, hb1⟩
  case round =>
    obtain ⟨k, D, c, hk, rfl, rfl, HR, hb⟩ := hrel
    by_cases hlt : k < s.size
    · have hd : decide ((k : Int) < (s.size : Int)) = true := by simp; omega
      have hk1 : (0 : Int) ≤ (k : Int) := by omega
      have hk2 : (k : Int) < (s.size : Int) := by omega
      go_wp2_with (at_builtin; refine wpList_append_rd _ rfl (.tmp 15) (.tmp 19) _ rfl bytesV w.heap.size _ (M + k) _ rfl (HR.out.alloc _) (wr.heap.size + 1) (some ⟨wr.heap.size, 0, none⟩) 1 1 _ rfl (Rd.new1 wr _ _) (by intro u hu; simp at hu; subst hu; rfl) (by unfold maxLen; omega) (by omega) (by have := hb.size; simp; omega) ?_; intro D2 c2 w2 ho2 hb2 _ _)
      go_roundw
      case rel =>
        have hks : k < s.data.toList.length := by simp; exact hlt
        have e1 : s.data.toList.take (k + 1) = s.data.toList.take k ++ [s[k]] := by
          rw [List.take_succ_eq_append_getElem hks]; rfl
        refine ⟨k + 1, D2, c2, by omega, by go_num, rfl, ?_, (hb.alloc hb.size _).trans hb2⟩
        show World.ownsRow _ _ _ _ _ _ _
        rw [e1, ← List.append_assoc, byts_append]
        exact ho2
      case measure => simp [intOf]; omega
    · obtain rfl : k = s.size := by omega
      go_wp2_with fail
      go_ret
      have e1 : s.data.toList.take s.size = s.data.toList := List.take_of_length_le (by simp)
      rw [e1] at HR
      exact Fresh.of (by rw [List.length_append, HM.out]; rfl) HR.out hb
set_option maxHeartbeats 400000 in
set_option maxRecDepth 100000 in
theorem refSame_any (w : World) (A : Option Addr) (n cap : Nat) (b : List UInt8) (q : Nat) (A' : Option Addr) (m cap' : Nat) (ys : List UInt8) (B B' : Nat) (hB : B ≤ w.heap.size) (hB' : B' ≤ w.heap.size) (h : Rd w B 1 A n (byts b)) (h' : Rd w B' 1 A' m (byts ys))
    (hn : n ≤ 100000000) (hn' : m ≤ 100000000) (hq : q ≤ n) (r : Bool) (hr : decide ((b.drop q).take m = ys) = r) :
    Calls Try.prog 44 #[.slice A n cap, .int .i64 (q : Nat), .slice A' m cap'] w fun e w' => e = .returned (.bool r) ∧ Below w.heap.size w w' := by
  have hl := h.blen
  have hl' := h'.blen
  have HR := Lib.hid hr
  have H := Lib.hid h
  have H' := Lib.hid h'
  have HL := Lib.hid hl
  have HL' := Lib.hid hl'
  clear hr h h' hl hl'
  by_cases hf : n < q + m
  · have hd : decide ((n : Int) < (q : Int) + (m : Int)) = true := by simp; omega
    have HF : Hid (false = r) := by
      show _ = _
      rw [← HR.out]
      symm
      rw [decide_eq_false_iff_not]
      intro he
      have := congrArg List.length he
      rw [List.length_take, List.length_drop, HL.out, HL'.out] at this
      omega
    go_enter Try.func44, Try.ntmps44
    go_wp2_with fail
    go_ret
    exact ⟨by rw [← HF.out]; rfl, Below.refl _ _⟩
  have hd : decide ((n : Int) < (q : Int) + (m : Int)) = false := by simp; omega
  go_enter Try.func44, Try.ntmps44
  go_wp2_with fail
  go_loopw [7] (fun i wr => ∃ k : Nat, k ≤ m ∧ i = .int .i64 k ∧ Hid ((b.drop q).take k = ys.take k) ∧ Ext w wr) (fun i _ => m - (intOf i).toNat)
  case atStart => exact ⟨0, by omega, rfl, rfl, Below.refl _ _⟩
  case round =>
    obtain ⟨k, hk, rfl, HE, hx⟩ := hrel
    by_cases hlt : k < m
    · obtain ⟨bb, o, hkl, rfl, hbB, hc⟩ := (H.out.below (hx.mono hB)).byte (k := q + k) (by omega)
      obtain ⟨b', o', hkl', rfl, hbB', hc'⟩ := (H'.out.below (hx.mono hB')).byte hlt
      have hd : decide ((k : Int) < (m : Int)) = true := by simp; omega
      have hk1 : (0 : Int) ≤ (k : Int) := by omega
      have hk2 : (k : Int) < (m : Int) := by omega
      have hq1 : (0 : Int) ≤ (q : Int) + (k : Int) := by omega
      have hq2 : (q : Int) + (k : Int) < (n : Int) := by omega
      have hkd : k < (b.drop q).length := by rw [List.length_drop]; omega
      have hgd : (b.drop q)[k] = b[q + k] := List.getElem_drop
      have HGD := Lib.hid hgd
      clear hgd
      by_cases he : b[q + k] = ys[k]
      · have HEk := Lib.hid he
        rw [← he] at hc'
        obtain ⟨x, hx'⟩ : ∃ x, x = b[q + k].toNat := ⟨_, rfl⟩
        rw [← hx'] at hc hc'
        clear he hx'
        have hself : (((x : Nat) : Int) != (x : Int)) = false := by simp
        go_wp2_with fail
        go_quiet (fail)
        go_wp2_with fail
        go_roundw
        case rel =>
          refine ⟨k + 1, by omega, by go_num, ?_, Ext.trans hx ⟨rfl, rfl, rfl, Nat.le_refl _, fun _ _ => rfl⟩⟩
          show (b.drop q).take (k + 1) = ys.take (k + 1)
          rw [List.take_succ_eq_append_getElem hkd, List.take_succ_eq_append_getElem hkl', HE.out, HGD.out, HEk.out]
        case measure => simp [intOf]; omega
      · have hnx : (((b[q + k].toNat : Nat) : Int) != ((ys[k].toNat : Nat) : Int)) = true := by
          rw [bne_iff_ne]
          intro h
          exact he (UInt8.toNat_inj.1 (by omega))
        have HF : Hid (false = r) := by
          show _ = _
          rw [← HR.out]
          symm
          rw [decide_eq_false_iff_not]
          intro h
          refine he ?_
          rw [← HGD.out]
          have h2 : ((b.drop q).take m)[k]'(by rw [List.length_take]; omega) = ys[k] := by simp only [h]
          rw [List.getElem_take] at h2
          exact h2
        obtain ⟨x, hx'⟩ : ∃ x, x = b[q + k].toNat := ⟨_, rfl⟩
        obtain ⟨y, hy'⟩ : ∃ y, y = ys[k].toNat := ⟨_, rfl⟩
        rw [← hx', ← hy'] at hnx
        rw [← hx'] at hc
        rw [← hy'] at hc'
        clear hx' hy' he
        go_wp2_with fail
        go_quiet (fail)
        go_wp2_with fail
        go_ret
        exact ⟨by rw [← HF.out]; rfl, Ext.trans hx ⟨rfl, rfl, rfl, Nat.le_refl _, fun _ _ => rfl⟩⟩
    · obtain rfl : k = m := by omega
      go_wp2_with fail
      go_ret
      refine ⟨?_, hx⟩
      have h1 : (b.drop q).take k = ys := by
        have := HE.out
        rw [List.take_of_length_le (l := ys) (by rw [HL'.out]; omega)] at this
        exact this
      have h2 : r = true := by rw [← HR.out]; exact decide_eq_true h1
      rw [h2]
      rfl
end Go.Proofs.Ytmobgamlednlhaa
