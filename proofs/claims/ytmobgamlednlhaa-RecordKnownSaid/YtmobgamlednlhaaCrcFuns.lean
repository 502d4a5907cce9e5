/-
  The check's functions: the table, the register over bytes, sums; the document's own, digit by digit. What each call computes.
-/
import Derived.Test.YtmobgamlednlhaaProg
import Derived.Test.YtmobgamlednlhaaWords
import Derived.Test.YtmobgamlednlhaaCrcPlain
namespace Go.Proofs.Ytmobgamlednlhaa
open Go.RowKit
/-- A variable whose zero value is a row of cells. -/
theorem wpList_alloc_row {P : Program} {ops : Array Oper} {rest : List Oper} {o : Oper} {a : Act} {w : World} {Q : Exit → Act → World → Prop} (hgd : o.guard = none) (E : TypeId) (ho : o.op = .alloc E)
    (zs : Array Value) (hz : (P.info? E).map (·.zero) = some (some (.agg zs)))
    (h : wpList P ops Q rest (a.put o.dst (.pointer (some ⟨w.heap.size, 0, none⟩))) (w.alloc (.cells zs E))) : wpList P ops Q (o :: rest) a w := by
  refine wpList_plain hgd fun K hK => ?_
  cases hq : P.info? E with
  | none => simp [hq] at hz
  | some i =>
    have hi : i.zero = some (.agg zs) := by simpa [hq] using hz
    have hr : (Instr.alloc E true (.tuple #[])).run P w = .ok (.pointer (some ⟨w.heap.size, 0, none⟩)) (w.alloc (.cells zs E)) := by
      simp [Instr.alloc, zeroValue, typeInfo, hq, hi, newVar, newRow, Value.cells]
    unfold Oper.wp execOp
    simp only [ho, Sem.run_bind, Sem.run_pure, Result.andThen_ok, hr]
    exact hK _ _ h
theorem step_bits (c : Nat) (hc : c < 4294967296) :
    bits BinOp.xor IntKind.u32 (↑c / 2) (bits BinOp.and IntKind.u32 2197175160 (-bits BinOp.and IntKind.u32 (↑c) 1 % 4294967296)) = ((Crc.stp c : Nat) : Int) := by
  have e1 : bits BinOp.and IntKind.u32 (↑c) 1 = ((c % 2 : Nat) : Int) := by
    have := u32_and_nat c 1 hc (by omega)
    rw [nat_mask1] at this
    exact this
  have h : c % 2 = 0 ∨ c % 2 = 1 := by omega
  rw [e1]
  unfold Crc.stp
  rcases h with h | h <;> rw [h]
  · have e2 : bits BinOp.and IntKind.u32 2197175160 (-((0 : Nat) : Int) % 4294967296) = ((0 : Nat) : Int) := by decide +kernel
    have e3 := u32_xor_nat (c / 2) 0 (by omega) (by omega)
    rw [e2]
    rw [Int.natCast_ediv] at e3
    exact e3
  · have e2 : bits BinOp.and IntKind.u32 2197175160 (-((1 : Nat) : Int) % 4294967296) = ((2197175160 : Nat) : Int) := by decide +kernel
    have e3 := u32_xor_nat (c / 2) 2197175160 (by omega) (by omega)
    rw [e2]
    rw [Int.natCast_ediv] at e3
    exact e3
theorem zero35 : (Try.prog.info? 111).map (·.zero) = some (some (.agg (Array.replicate 256 (.int .u32 0)))) := by kernel_rfl
theorem size35 : (Try.prog.info? 111).map (·.size) = some 256 := by kernel_rfl
def tcell (k j : Nat) : Value := .int .u32 (if j < k then Crc.tabv j else 0 : Nat)
def tcells (k : Nat) : Array Value := ((List.range 256).map (tcell k)).toArray
theorem tcells_get (k j : Nat) (hj : j < 256) : (tcells k)[j]? = some (tcell k j) := by
  unfold tcells
  simp [hj]
theorem tcells_put (k : Nat) : (tcells k).setIfInBounds k (.int .u32 (Crc.stps 8 k : Nat)) = tcells (k + 1) := by
  apply Array.ext_getElem?
  intro j
  by_cases hj : j < 256
  · rw [Array.getElem?_setIfInBounds, tcells_get _ _ hj, tcells_get _ _ hj]
    by_cases e : k = j
    · subst e
      have : k < (tcells k).size := by unfold tcells; simp; exact hj
      simp [this, tcell, Crc.tabv]
    · have h1 : (j < k + 1) = (j < k) := by simp; omega
      simp [e, tcell, h1]
  · have h1 : ∀ m, (tcells m)[j]? = none := fun m => by unfold tcells; simp; omega
    rw [Array.getElem?_setIfInBounds, h1, h1]
    have : ¬ k < (tcells k).size ∨ k ≠ j := by unfold tcells; simp; omega
    split
    · rename_i e
      subst e
      rcases this with h | h
      · simp [h]
      · exact absurd rfl h
    · rfl
theorem tcells_one (k : Nat) : (tcells k).all (·.oneCell') = true := by
  unfold tcells
  simp [tcell, Value.oneCell']
def zcells : Array Value := Array.replicate 256 (.int .u32 0)
theorem tcells_zero : zcells = tcells 0 := by kernel_rfl
set_option maxHeartbeats 400000 in
set_option maxRecDepth 100000 in
theorem table_any (w : World) :
    Calls Try.prog 55 #[] w fun e w' => e = .returned (.agg (tcells 256)) ∧ Below w.heap.size w w' := by
  go_enter Try.func55, Try.ntmps55
  go_wp2_with (refine wpList_alloc_row rfl 111 rfl zcells zero35 ?_)
  go_loopw [4] (fun i wr => ∃ k : Nat, k ≤ 256 ∧ i = .int .i64 k ∧ Whole wr w.heap.size 111 zcells ∧ Whole wr (w.heap.size + 1) 111 (tcells k) ∧ Below w.heap.size w wr) (fun i _ => 256 - (intOf i).toNat)
  case atStart => 
    refine ⟨0, by omega, rfl, (Whole.new w 111 zcells).alloc _, ?_, ((Below.refl _ _).alloc (Nat.le_refl _) _).alloc (by simp) _⟩
    rw [← tcells_zero]
    exact heap_alloc2_new w _ _
  case round =>
    obtain ⟨k, hk, rfl, hz, ht, hb⟩ := hrel
    by_cases hlt : k < 256
    · go_wp2_with fail
      go_loop [3, 9] (fun u i => ∃ m : Nat, m ≤ 8 ∧ i = .int .i64 m ∧ u = .int .u32 (Crc.stps m k : Nat)) (fun _ i => 8 - (intOf i).toNat)
      case atStart => exact ⟨0, by omega, rfl, rfl⟩
      case round =>
        obtain ⟨m, hm, rfl, rfl⟩ := hrel
        have hr := Crc.stps_lt (show k < 4294967296 by omega) m
        by_cases hmt : m < 8
        · obtain ⟨c, hc⟩ : ∃ c, c = Crc.stps m k := ⟨_, rfl⟩
          rw [← hc] at hr ⊢
          have HC := Lib.hid hc
          clear hc
          go_wp2_with fail
          go_round
          case rel =>
            refine ⟨m + 1, by omega, by go_num, int_eq ?_⟩
            rw [Crc.stps, ← HC.out]
            exact step_bits c hr
          case measure => simp [intOf]; omega
        · obtain rfl : m = 8 := by omega
          have h1 : wr.cell? ⟨w.heap.size + 1, k, none⟩ = some (tcell k k) := (ht.cell k).trans (tcells_get k k hlt)
          have h2 := ht.frozen k
          have h3 := Whole.put_ ht k (.int .u32 (Crc.stps 8 k : Nat))
          rw [tcells_put] at h3
          have h4 : Whole (wr.setCell ⟨w.heap.size + 1, k, none⟩ (.int .u32 (Crc.stps 8 k : Nat))) w.heap.size 111 zcells := hz.far (by simp) _
          have h5 : Below w.heap.size w (wr.setCell ⟨w.heap.size + 1, k, none⟩ (.int .u32 (Crc.stps 8 k : Nat))) := hb.setCell (by simp) _
          clear ht hz hb
          go_wp2_with fail
          go_roundw
          case rel => exact ⟨k + 1, by omega, by go_num, h4, h3, h5⟩
          case measure => simp [intOf]; omega
    · obtain rfl : k = 256 := by omega
      have hs : (Try.prog.info? 111).map (·.size) = some (tcells 256).size := size35
      have ho : zcells.size = (tcells 256).size := by simp [zcells, tcells]
      have h1 : (tcells 256).all (·.oneCell') = true := tcells_one 256
      have hw : Whole (wr.setRow w.heap.size (tcells 256)) w.heap.size 111 (tcells 256) := setRow_heap wr w.heap.size zcells _ 111 (0, 0) hz
      have hb' : Below w.heap.size w (wr.setRow w.heap.size (tcells 256)) := hb.trans ⟨rfl, rfl, rfl, by simp, fun j hj => setRow_other wr w.heap.size j _ (by omega)⟩
      go_wp2_with (first | (refine wpList_load_row rfl 111 (.tmp 1) rfl (w.heap.size + 1) rfl 111 (tcells 256) (0, 0) _ ht Try.underlying111 rfl hs ?_) | (refine wpList_store_row rfl 111 (.tmp 0) (.tmp 23) rfl w.heap.size (tcells 256) rfl rfl 111 zcells hz hs ho h1 ?_))
      exact bodyPost_ret (results_cell_row rfl _ _ w.heap.size 111 (tcells 256) (0, 0) _ rfl hw Try.underlying111 rfl hs) rfl ⟨rfl, hb'⟩
set_option maxHeartbeats 400000 in
set_option maxRecDepth 100000 in
theorem update_any (w : World) (c : Nat) (hc : c < 4294967296) (g : Nat) (A : Option Addr) (n cap : Nat) (xs : List UInt8) (B : Nat)
    (hT : ∀ i, i < 256 → w.cell? ⟨g, i, none⟩ = some (.int .u32 (Crc.tabv i : Nat))) (h : Rd w B 1 A n (byts xs)) (hn : n ≤ maxLen) :
    Calls Try.prog 56 #[.pointer (some ⟨g, 0, none⟩), .int .u32 (c : Nat), .slice A n cap] w fun e w' => e = .returned (.int .u32 (Crc.update c xs : Nat)) ∧ w = w' := by
  unfold maxLen at hn
  have hl := h.blen
  go_enter Try.func56, Try.ntmps56
  go_wp2_with fail
  go_loop [1, 13] (fun u i => ∃ k : Nat, k ≤ n ∧ i = .int .i64 k ∧ u = .int .u32 (Crc.run (c ^^^ 4294967295) (xs.take k) : Nat)) (fun _ i => n - (intOf i).toNat)
  case atStart => 
    exact ⟨0, by omega, rfl, int_eq (u32_xor_nat c 4294967295 hc (by omega))⟩
  case round =>
    obtain ⟨k, hk, rfl, rfl⟩ := hrel
    have hr := Crc.run_lt (Crc.xor_lt hc (show 4294967295 < 4294967296 by omega)) (xs.take k)
    by_cases hlt : k < n
    · obtain ⟨b, o, hkl, rfl, hb, hcell⟩ := h.byte hlt
      have HS := Lib.hid (Crc.run_take (c := c ^^^ 4294967295) hkl)
      obtain ⟨r, hre⟩ : ∃ r, r = Crc.run (c ^^^ 4294967295) (xs.take k) := ⟨_, rfl⟩
      rw [← hre] at hr HS ⊢
      obtain ⟨x, hx⟩ : ∃ x, x = xs[k].toNat := ⟨_, rfl⟩
      have hx2 : x < 256 := by rw [hx]; exact Crc.byte_lt _
      rw [← hx] at hcell HS
      have HR := Lib.hid hr
      clear hre h hx hkl hl hc hr
      obtain ⟨q, hq, hq2, hxor⟩ : ∃ q, q = r % 256 ^^^ x ∧ q < 256 ∧ bits BinOp.xor IntKind.u8 (↑r % 256) ↑x = (q : Int) :=
        ⟨_, rfl, Nat.xor_lt_two_pow (n := 8) (by omega) (by omega), by
          have := u8_xor_nat (r % 256) x (by omega) hx2
          rwa [Int.natCast_emod] at this⟩
      have hT' := hT q hq2
      have HQ := Lib.hid hq
      clear hT hq
      go_wp2_with fail
      go_round
      case rel => 
        refine ⟨k + 1, by omega, by go_num, int_eq ?_⟩
        have e := u32_xor_nat (Crc.tabv q) (r / 256) (Crc.tabv_lt (by omega)) (by have := HR.out; omega)
        rw [Int.natCast_ediv] at e
        rw [HS.out, Crc.upd, ← HQ.out]
        exact e
      case measure => simp [intOf]; omega
    · obtain rfl : k = n := by omega
      go_wp2_with fail
      go_ret
      refine ⟨ret_eq ?_, rfl⟩
      rw [List.take_of_length_le (by omega)] at hr ⊢
      exact u32_xor_nat _ 4294967295 hr (by omega)

/-- The table, laid in a variable. -/
theorem laid_table {w w1 : World} (hb : Below w.heap.size w w1) {B n : Nat} {A : Option Addr} {l : List Value} (hB : B ≤ w.heap.size) (h : Rd w B 1 A n l) :
    Below w.heap.size w ((w1.alloc (.cells zcells 111)).setRow w1.heap.size (tcells 256)) ∧
    (∀ i, i < 256 → ((w1.alloc (.cells zcells 111)).setRow w1.heap.size (tcells 256)).cell? ⟨w1.heap.size, i, none⟩ = some (.int .u32 (Crc.tabv i : Nat))) ∧
    Rd ((w1.alloc (.cells zcells 111)).setRow w1.heap.size (tcells 256)) B 1 A n l := by
  have hs := hb.size
  have h1 : Below w.heap.size w ((w1.alloc (.cells zcells 111)).setRow w1.heap.size (tcells 256)) :=
    (hb.alloc hs _).trans ⟨rfl, rfl, rfl, by simp, fun j hj => setRow_other _ _ j _ (by omega)⟩
  refine ⟨h1, fun i hi => ?_, h.below (h1.mono hB)⟩
  have hw : Whole ((w1.alloc (.cells zcells 111)).setRow w1.heap.size (tcells 256)) w1.heap.size 111 (tcells 256) := setRow_heap _ _ _ _ _ (0, 0) (heap_alloc_new w1 _)
  rw [hw.cell, tcells_get _ _ hi]
  unfold tcell
  rw [if_pos hi]
theorem zcells_size : zcells.size = (tcells 256).size := by simp [zcells, tcells]
/-- The same for the rows of a slice of slices. -/
theorem laid_table_rows {w w1 : World} (hb : Below w.heap.size w w1) {B n : Nat} {A : Option Addr} {ls : List (List UInt8)} (hB : B ≤ w.heap.size) (h : RdRows w B A n ls) :
    Below w.heap.size w ((w1.alloc (.cells zcells 111)).setRow w1.heap.size (tcells 256)) ∧
    (∀ i, i < 256 → ((w1.alloc (.cells zcells 111)).setRow w1.heap.size (tcells 256)).cell? ⟨w1.heap.size, i, none⟩ = some (.int .u32 (Crc.tabv i : Nat))) ∧
    RdRows ((w1.alloc (.cells zcells 111)).setRow w1.heap.size (tcells 256)) B A n ls := by
  obtain ⟨h1, h2, _⟩ := laid_table hb hB (Rd.nil_ w B 1 none)
  exact ⟨h1, h2, h.below (h1.mono hB)⟩
set_option maxHeartbeats 400000 in
set_option maxRecDepth 100000 in
theorem crcSum_any (w : World) (A : Option Addr) (n cap : Nat) (ls : List (List UInt8)) (B : Nat) (hB : B ≤ w.heap.size)
    (h : RdRows w B A n ls) (hn : n ≤ maxLen) :
    Calls Try.prog 53 #[.slice A n cap] w fun e w' => e = .returned (.int .u32 (Crc.update 0 ls.flatten : Nat)) ∧ Below w.heap.size w w' := by
  have hs : (Try.prog.info? 111).map (·.size) = some (tcells 256).size := size35
  have ho := zcells_size
  unfold maxLen at hn
  go_enter Try.func53, Try.ntmps53
  go_wp2_with fail
  refine (table_any _).mono ?_
  rintro e w1 ⟨rfl, hb1⟩
  go_wp2_with (first | (refine wpList_alloc_row rfl 111 rfl zcells zero35 ?_) | (refine wpList_store_row rfl 111 (.tmp 3) (.tmp 7) rfl w1.heap.size (tcells 256) rfl rfl 111 zcells (heap_alloc_new w1 _) hs ho (tcells_one 256) ?_))
  obtain ⟨hb2, hT, h2⟩ := laid_table_rows hb1 hB h
  generalize (w1.alloc (.cells zcells 111)).setRow w1.heap.size (tcells 256) = w2 at hb2 hT h2 ⊢
  have H2 := Lib.hid h2
  have HT := Lib.hid hT
  clear h2 hT h hs ho
  go_loop [4, 10] (fun u i => ∃ k : Nat, k ≤ n ∧ i = .int .i64 k ∧ u = .int .u32 (Crc.update 0 (ls.take k).flatten : Nat)) (fun _ i => n - (intOf i).toNat)
  case atStart => exact ⟨0, by omega, rfl, int_eq (by rw [List.take_zero, List.flatten_nil, Crc.update_nil]; rfl)⟩
  case round =>
    obtain ⟨k, hk, rfl, rfl⟩ := hrel
    by_cases hlt : k < n
    · obtain ⟨b, o, A', m, c, rfl, hb, hcell, hm1, hm2, hr⟩ := H2.out.2 k hlt
      have HR := Lib.hid hr
      have HM := Lib.hid (Nat.le_trans hm1 hm2)
      clear hr hm1 hm2
      go_wp2_with fail
      refine (update_any w2 _ (Crc.update_lt (by omega) _) _ _ _ _ _ B HT.out HR.out HM.out).mono ?_
      rintro e w3 ⟨rfl, rfl⟩
      go_wp2_with fail
      go_round
      case rel =>
        refine ⟨k + 1, by omega, by go_num, int_eq ?_⟩
        have hkl : k < ls.length := by have := H2.out.1; omega
        rw [List.take_succ_eq_append_getElem hkl, List.flatten_append, Crc.update_append]
        simp [List.getElem?_eq_getElem hkl]
      case measure => simp [intOf]; omega
    · obtain rfl : k = n := by omega
      go_wp2_with fail
      go_ret
      refine ⟨ret_eq ?_, hb2⟩
      rw [List.take_of_length_le (by have := H2.out.1; omega)]
/-- One row, laid in a block of its own for the variadic parameter. -/
theorem crcSum_one (w : World) (A : Option Addr) (m c : Nat) (xs : List UInt8) (B : Nat) (hB : B ≤ w.heap.size) (h : Rd w B 1 A m (byts xs)) (h1 : m ≤ c) (h2 : c ≤ maxLen)
    (N : Nat) (hN : Crc.update 0 xs = N) (G : Nat) (hG : w.heap.size = G) :
    Calls Try.prog 53 #[.slice (some ⟨G, 0, none⟩) 1 1] (w.alloc (.cells #[.slice A m c] 27)) fun e w' => e = .returned (.int .u32 (N : Nat)) ∧ Below w.heap.size w w' := by
  subst hG
  refine (crcSum_any _ _ 1 1 [xs] (w.heap.size + 1) (by simp) (RdRows.one w 27 hB h1 h2 h) (by unfold maxLen; omega)).mono fun e w' ⟨he, hb⟩ => ?_
  refine ⟨?_, ((Below.refl w.heap.size w).alloc (Nat.le_refl _) _).trans (hb.mono (by simp))⟩
  rw [he, ← hN]
  simp
/-- One row in a block that is known. -/
theorem crcSum_at (w : World) (g : Nat) (t : TypeId) (A : Option Addr) (m c : Nat) (xs : List UInt8) (hw : Whole w g t #[.slice A m c]) (h : Rd w w.heap.size 1 A m (byts xs)) (h1 : m ≤ c) (h2 : c ≤ maxLen) (N : Nat) (hN : Crc.update 0 xs = N) :
    Calls Try.prog 53 #[.slice (some ⟨g, 0, none⟩) 1 1] w fun e w' => e = .returned (.int .u32 (N : Nat)) ∧ Below w.heap.size w w' := by
  refine (crcSum_any _ _ 1 1 [xs] w.heap.size (Nat.le_refl _) (RdRows.of1 hw hw.lt h1 h2 h) (by unfold maxLen; omega)).mono fun e w' ⟨he, hb⟩ => ⟨?_, hb⟩
  rw [he, ← hN]
  simp
/-- No row at all. -/
theorem crcSum_none (w : World) :
    Calls Try.prog 53 #[.slice none 0 0] w fun e w' => e = .returned (.int .u32 0) ∧ Below w.heap.size w w' := by
  refine (crcSum_any w none 0 0 [] w.heap.size (Nat.le_refl _) ⟨rfl, fun k hk => absurd hk (by omega)⟩ (by unfold maxLen; omega)).mono fun e w' ⟨he, hb⟩ => ⟨?_, hb⟩
  rw [he]
  simp [Crc.update_nil]
end Go.Proofs.Ytmobgamlednlhaa
