/-
  Files in parts: append onto a full slice, clear; slices.Clip, slices.Clone; what the library asks of a part.
-/
import Derived.Test.YtankhjchdnfpfaaExtPlain
import Derived.Test.YtankhjchdnfpfaaVarFuns
import Derived.Lib.SliceRun
namespace Go.Proofs.Ytankhjchdnfpfaa
open Go.RowKit
theorem pick_law (z N : Int) (hN : 0 < N) : ((z.tmod N) + N).tmod N = z % N ∧ -N < z.tmod N ∧ z.tmod N < N := by
  have h1 : z.tmod N < N := Int.tmod_lt_of_pos z hN
  have h2 : -N < z.tmod N := by
    rcases Int.lt_or_le z 0 with h0 | h0
    · have h3 : (-z).tmod N < N := Int.tmod_lt_of_pos (-z) hN
      rw [Int.neg_tmod] at h3
      omega
    · have h3 : 0 ≤ z.tmod N := Int.tmod_nonneg N h0
      omega
  refine ⟨?_, h2, h1⟩
  rw [Int.tmod_eq_emod_of_nonneg (by omega), Int.add_emod_right]
  have h3 : z = N * z.tdiv N + z.tmod N := (Int.mul_tdiv_add_tmod z N).symm
  conv => rhs; rw [h3]
  rw [Int.mul_add_emod_self_left]
set_option maxRecDepth 100000 in
set_option maxHeartbeats 4000000 in
theorem pick_any (w : World) (z : Int) (N : Nat) (hN : 0 < N) (hN2 : N ≤ 1000000) :
    Calls Try.prog 12 #[.int .i64 z, .int .i64 (N : Nat)] w fun en w' => en = .returned (.int .i64 (z % (N : Int))) ∧ Below w.heap.size w w' := by
  obtain ⟨h1, h2, h3⟩ := pick_law z (N : Int) (by omega)
  have HP := Lib.hid (show (z.tmod (N : Int) + (N : Int)) % (N : Int) = z % (N : Int) from by rw [← Int.tmod_eq_emod_of_nonneg (by omega)]; exact h1)
  have e1 : IntKind.i64.wrap (z.tmod (N : Int) + (N : Int)) = z.tmod (N : Int) + (N : Int) := by rw [IntKind.wrap_i64]; omega
  have e2 : ¬ (N : Int) = 0 := by omega
  have e3 : ((N : Int) == 0) = false := by rw [beq_eq_false_iff_ne]; omega
  have e4 : decide ((N : Int) ≤ 0) = false := by simp; omega
  clear h1
  go_enter Try.func12, Try.ntmps12
  go_wp2_with fail
  go_ret
  exact ⟨by rw [← HP.out]; rfl, Below.refl _ _⟩

section
variable {P : Program} (w : World)
/-- append onto a slice with no room left: always new memory. -/
theorem run_append_full {t ty e : TypeId} {size bytes : Nat} (he : ElemOK P t e size bytes) (base : Nat) (B0 : Nat)
    (A0 : Option Addr) (n : Nat) (xs : List Value) (h0 : Rd w B0 size A0 n xs)
    (B : Nat) (A : Option Addr) (m c : Nat) (news : List Value) (hr : Rd w B size A m news) (hm : 0 < m)
    (h63 : n + m ≤ maxLen) (hbytes : (n + m) * bytes ≤ 140737488355328) (hbase : base ≤ w.heap.size) :
    ∃ A' c' w', (Builtin.append_ #[t, t] ty #[.slice A0 n n, .slice A m c]).run P w = .ok (.slice A' (n + m) c') w' ∧ w'.ownsRow base e size (.slice A' (n + m) c') (n + m) (xs ++ news) ∧ Below w.heap.size w w' := by
  obtain ⟨ht, i, z, hi, hz, hsize, hby, hzs, hsz⟩ := he
  subst hsize
  subst hby
  obtain ⟨ad, rfl, _, hc⟩ := hr.cells hm
  have hlen : (xs ++ news).length = (n + m) * i.size := by rw [List.length_append, h0.1, hr.1, Nat.add_mul]
  have grown : ∀ (old : Nat), old < n + m →
      (w.drew.alloc (.cells (xs.toArray ++ news.toArray ++ Builtin.zeroCells z.cells (grownCap w (n + m) old e - (n + m))) e)).ownsRow base e i.size
        (.slice (some ⟨w.heap.size, 0, none⟩) (n + m) (grownCap w (n + m) old e)) (n + m) (xs ++ news) ∧
      Below w.heap.size w (w.drew.alloc (.cells (xs.toArray ++ news.toArray ++ Builtin.zeroCells z.cells (grownCap w (n + m) old e - (n + m))) e)) := by
    intro old ho
    have hge := grownCap_ge w (n + m) old e
    have hcm : grownCap w (n + m) old e ≤ maxLen := grownCap_le_maxLen w (n + m) old e h63
    refine ⟨⟨hlen, .inr ⟨w.heap.size, _, _, rfl, hbase, heap_alloc_new w.drew _, hge, hcm, ?_, ?_⟩⟩, ⟨rfl, rfl, rfl, by simp, fun k hk => Below.heap_alloc w.drew _ k hk⟩⟩
    · simp only [Array.size_append, List.size_toArray, size_zeroCells, hzs, h0.1, hr.1, ← Nat.add_mul]
      congr 1
      omega
    · simp only [Array.toList_append, List.append_assoc]
      rw [← List.append_assoc, ← hlen]
      exact List.take_left
  have hsmall : n + m ≤ 9223372036854775807 := by simp only [maxLen] at h63; omega
  cases A0 with
  | none =>
    obtain rfl : n = 0 := by
      rcases Nat.eq_zero_or_pos n with h | h
      · exact h
      · obtain ⟨b, o, e, _⟩ := h0.2 h
        cases e
    have hx : xs = [] := List.eq_nil_of_length_eq_zero (by simpa using h0.1)
    subst hx
    have hrn := run_append_nil (P := P) w t ty e i z ht hi hz ad m c news hr.1 hc hm (by omega) (by have hb := hbytes; simp only [Nat.zero_add] at hb; omega)
    have hgr := grown 0 (by omega)
    simp only [Nat.zero_add, List.nil_append, Array.empty_append] at hgr ⊢
    exact ⟨_, _, _, hrn, hgr.1, hgr.2⟩
  | some a0 =>
    have holds : ∀ j u, xs[j]? = some u → w.cell? (a0.add j) = some u := by
      rcases Nat.eq_zero_or_pos n with h | h
      · subst h
        have hx : xs = [] := List.eq_nil_of_length_eq_zero (by simpa using h0.1)
        subst hx
        intro j u hj
        simp at hj
      · obtain ⟨ad', e1, _, hc'⟩ := h0.cells h
        cases e1
        exact hc'
    have hrn := run_append_grow (P := P) w t ty e i z ht hi hz a0 n n xs h0.1 holds ad m c news hr.1 hc (by omega) (by omega) (growslice_fits (by omega) hbytes)
    have hgr := grown n (by omega)
    exact ⟨_, _, _, hrn, hgr.1, hgr.2⟩

theorem wpList_append_full {ops : Array Oper} {rest : List Oper} {o : Oper} {a : Act} {Q : Exit → Act → World → Prop} (hgd : o.guard = none) (s x : Operand) (t : TypeId)
    (ho : o.op = .call { callee := .builtin .append, args := #[s, x], argTypes := #[t, t] })
    {e : TypeId} {size bytes : Nat} (he : ElemOK P t e size bytes) (base : Nat) (B0 : Nat)
    (A0 : Option Addr) (n : Nat) (xs : List Value) (hs : a.eval s = .slice A0 n n) (h0 : Rd w B0 size A0 n xs)
    (B : Nat) (A : Option Addr) (m c : Nat) (news : List Value) (hx : a.eval x = .slice A m c) (hr : Rd w B size A m news) (hm : 0 < m)
    (h63 : n + m ≤ maxLen) (hbytes : (n + m) * bytes ≤ 140737488355328) (hbase : base ≤ w.heap.size)
    (h : ∀ A' c' w', w'.ownsRow base e size (.slice A' (n + m) c') (n + m) (xs ++ news) → Below w.heap.size w w' → wpList P ops Q rest (a.put o.dst (.slice A' (n + m) c')) w') : wpList P ops Q (o :: rest) a w := by
  refine wpList_plain hgd fun K hK => ?_
  obtain ⟨A', c', w', hrun, h2, h3⟩ := run_append_full (P := P) w (ty := o.type) he base B0 A0 n xs h0 B A m c news hr hm h63 hbytes hbase
  unfold Oper.wp execOp
  simp only [ho, resolve, invoke, builtin, Sem.run_bind, Sem.run_pure, Result.andThen_ok, List.map_toArray, List.map_cons, List.map_nil, hs, hx, hrun]
  exact hK _ _ (h A' c' w' h2 h3)

/-- clear(s[i:]) of a row: what stands ahead of i stays. -/
theorem run_clear_own {t ty e : TypeId} {size bytes : Nat} (he : ElemOK P t e size bytes) (g i m c : Nat) (cur : Array Value) (hg : Whole w g e cur) (hm : 0 < m) (hfit : i * size + m * size ≤ cur.size)
    (hz1 : ∀ j z, P.info? e = some j → j.zero = some z → ∀ u ∈ z.cells, u.oneCell' = true) :
    ∃ cur' w', (Builtin.clear_ #[t] ty #[.slice (some ⟨g, i * size, none⟩) m c]).run P w = .ok (.tuple #[]) w' ∧ Whole w' g e cur' ∧ cur'.size = cur.size ∧ cur'.toList.take (i * size) = cur.toList.take (i * size) ∧ w.grownBy w' (some g) := by
  obtain ⟨ht, j, z, hi, hz, hsize, hby, hzs, hsz⟩ := he
  have hzc : (Builtin.zeroCells z.cells m).toList.length = m * size := by rw [Array.length_toList, size_zeroCells, hzs]
  have hst := run_storeCells_at P g (i * size) e (Builtin.zeroCells z.cells m).toList 0 cur w hg (by rw [hzc]; omega) (fun v hv => by
    rw [Array.mem_toList_iff] at hv
    unfold Builtin.zeroCells at hv
    rw [Array.mem_map] at hv
    obtain ⟨k, _, rfl⟩ := hv
    refine hz1 j z hi hz _ ?_
    have hzp : 0 < z.cells.size := by rw [hzs]; exact hsz
    have hkm : k % z.cells.size < z.cells.size := Nat.mod_lt _ hzp
    rw [getElem!_pos z.cells _ hkm]
    exact Array.getElem_mem hkm)
  simp only [Nat.add_zero] at hst
  obtain ⟨m', rfl⟩ : ∃ m', m = m' + 1 := ⟨m - 1, by omega⟩
  obtain ⟨cs, hcs⟩ : ∃ cs, (cur.toList.take (i * size) ++ (Builtin.zeroCells z.cells (m' + 1)).toList ++ cur.toList.drop (i * size + (Builtin.zeroCells z.cells (m' + 1)).toList.length)).toArray = cs := ⟨_, rfl⟩
  rw [hcs] at hst
  refine ⟨cs, w.setRow g cs, ?_, setRow_heap w g cur cs e (0, 0) hg, ?_, ?_, ⟨rfl, rfl, rfl, by simp [World.setRow], fun k _ hk => setRow_other w g k cs (fun e => hk (by rw [e]))⟩⟩
  · simp [Builtin.clear_, run_underlying ht, zeroValue, typeInfo, hi, hz, hst]
  · rw [← hcs]
    simp only [List.size_toArray, List.length_append, List.length_take, List.length_drop, Array.length_toList]
    rw [Array.length_toList] at hzc
    rw [hzc]
    omega
  · rw [← hcs]
    simp only [List.append_assoc]
    rw [List.take_append_of_le_length (by rw [List.length_take, Array.length_toList]; omega), List.take_take, Nat.min_self]
theorem wpList_clear_own {ops : Array Oper} {rest : List Oper} {o : Oper} {a : Act} {Q : Exit → Act → World → Prop} (hgd : o.guard = none) (s : Operand) (t : TypeId)
    (ho : o.op = .call { callee := .builtin .clear, args := #[s], argTypes := #[t] })
    {e : TypeId} {size bytes : Nat} (he : ElemOK P t e size bytes) (g i m c : Nat) (cur : Array Value) (hs : a.eval s = .slice (some ⟨g, i * size, none⟩) m c) (hg : Whole w g e cur) (hm : 0 < m) (hfit : i * size + m * size ≤ cur.size)
    (hz1 : ∀ j z, P.info? e = some j → j.zero = some z → ∀ u ∈ z.cells, u.oneCell' = true)
    (h : ∀ cur' w', Whole w' g e cur' → cur'.size = cur.size → cur'.toList.take (i * size) = cur.toList.take (i * size) → w.grownBy w' (some g) → wpList P ops Q rest (a.put o.dst (.tuple #[])) w') : wpList P ops Q (o :: rest) a w := by
  refine wpList_plain hgd fun K hK => ?_
  obtain ⟨cur', w', hrun, h2, h3, h4, h5⟩ := run_clear_own (P := P) w (ty := o.type) he g i m c cur hg hm hfit hz1
  unfold Oper.wp execOp
  simp only [ho, resolve, invoke, builtin, Sem.run_bind, Sem.run_pure, Result.andThen_ok, List.map_toArray, List.map_cons, List.map_nil, hs, hrun]
  exact hK _ _ (h cur' w' h2 h3 h4 h5)
end
theorem partV : ElemOK Try.prog 28 52 2 32 := ElemOK.mk_ (z := .agg #[.slice none 0 0, .bool false]) Try.underlying28 (by kernel_rfl) rfl (by omega)
theorem rpartV : ElemOK Try.prog 32 57 2 32 := ElemOK.mk_ (z := .agg #[.slice none 0 0, .bool false]) Try.underlying32 (by kernel_rfl) rfl (by omega)
theorem part_ne : 5 ≠ 52 ∧ 5 ≠ 57 ∧ 5 ≠ 30 ∧ 52 ≠ 30 ∧ 57 ≠ 30 ∧ 57 ≠ 52 := by decide
theorem own_empty (w : World) (e : TypeId) (s base : Nat) (hb : base ≤ w.heap.size) : (w.alloc (.cells #[] e)).ownsRow base e s (.slice (some ⟨w.heap.size, 0, none⟩) 0 0) 0 [] :=
  ⟨by simp, .inr ⟨w.heap.size, 0, #[], rfl, hb, heap_alloc_new w _, Nat.le_refl _, Nat.zero_le _, by simp, by simp⟩⟩
theorem byts_nil (w : World) (a : Option Addr) (n c : Nat) : (binOp .eql 26 (.slice a n c) (.slice none 0 0)).run Try.prog w = .ok (.bool a.isNone) w := Lib.run_eql_slice_nil w _ _ a n c 0 0 Try.underlying26
theorem parts_nil (w : World) (a : Option Addr) (n c : Nat) : (binOp .eql 28 (.slice a n c) (.slice none 0 0)).run Try.prog w = .ok (.bool a.isNone) w := Lib.run_eql_slice_nil w _ _ a n c 0 0 Try.underlying28
attribute [local go_sem] byts_nil parts_nil
set_option maxRecDepth 100000 in
set_option maxHeartbeats 1000000 in
theorem bclone_any (w : World) (A : Option Addr) (n cap : Nat) (l : List UInt8) (B : Nat) (hB : B ≤ w.heap.size) (h : Rd w B 1 A n (byts l)) (hn : n ≤ 140737488351232) :
    Calls Try.prog 28 #[.slice A n cap] w (Fresh w.heap.size 5 1 n (byts l) w) := by
  have H := Lib.hid h
  clear h
  cases A with
  | none =>
    obtain rfl : n = 0 := by
      rcases Nat.eq_zero_or_pos n with h | h
      · exact h
      · obtain ⟨b, o, e, _⟩ := H.out.2 h
        cases e
    have hl : byts l = [] := List.eq_nil_of_length_eq_zero (by have := H.out.1; omega)
    have HL := Lib.hid hl
    clear hl
    go_enter Try.func28, Try.ntmps28
    go_wp2_with fail
    go_ret
    exact ⟨none, 0, rfl, by rw [HL.out]; exact World.ownsRow_nil _ _ _ _, Below.refl _ _⟩
  | some a =>
    go_enter Try.func28, Try.ntmps28
    go_wp2_with (at_builtin; refine wpList_append_rd _ rfl (.tmp 5) (.tmp 6) _ rfl bytesV w.heap.size _ 0 _ rfl (own_empty w 5 1 w.heap.size (Nat.le_refl _)) B (some a) n cap _ rfl (H.out.alloc hB _) (byts_one _) (by unfold maxLen; omega) (by omega) (by simp) ?_; intro D2 c2 w3 ho2 hb2 _ _)
    rw [Nat.zero_add, List.nil_append] at ho2
    have HO2 := Lib.hid ho2
    clear ho2
    have hb3 := (below1 w (.cells #[] 5)).trans hb2
    go_wp2_with fail
    go_ret
    exact ⟨D2, c2, rfl, HO2.out, hb3⟩
set_option maxRecDepth 100000 in
set_option maxHeartbeats 1000000 in
theorem pclone_any (w : World) (A : Option Addr) (n cap : Nat) (vs : List Value) (B : Nat) (hB : B ≤ w.heap.size) (h : Rd w B 2 A n vs) (h1 : ∀ u ∈ vs, u.oneCell' = true) (hn : n ≤ 1000000000) :
    Calls Try.prog 35 #[.slice A n cap] w (Fresh w.heap.size 52 2 n vs w) := by
  have H := Lib.hid h
  have H1 := Lib.hid h1
  clear h h1
  cases A with
  | none =>
    obtain rfl : n = 0 := by
      rcases Nat.eq_zero_or_pos n with h | h
      · exact h
      · obtain ⟨b, o, e, _⟩ := H.out.2 h
        cases e
    have hl : vs = [] := List.eq_nil_of_length_eq_zero (by have := H.out.1; omega)
    have HL := Lib.hid hl
    clear hl
    go_enter Try.func35, Try.ntmps35
    go_wp2_with fail
    go_ret
    exact ⟨none, 0, rfl, by rw [HL.out]; exact World.ownsRow_nil _ _ _ _, Below.refl _ _⟩
  | some a =>
    go_enter Try.func35, Try.ntmps35
    go_wp2_with (at_builtin; refine wpList_append_rd _ rfl (.tmp 5) (.tmp 6) _ rfl partV w.heap.size _ 0 _ rfl (own_empty w 52 2 w.heap.size (Nat.le_refl _)) B (some a) n cap _ rfl (H.out.alloc hB _) H1.out (by unfold maxLen; omega) (by omega) (by simp) ?_; intro D2 c2 w3 ho2 hb2 _ _)
    rw [Nat.zero_add, List.nil_append] at ho2
    have HO2 := Lib.hid ho2
    clear ho2
    have hb3 := (below1 w (.cells #[] 52)).trans hb2
    go_wp2_with fail
    go_ret
    exact ⟨D2, c2, rfl, HO2.out, hb3⟩
set_option maxRecDepth 100000 in
set_option maxHeartbeats 1000000 in
theorem clip_any (w : World) (A : Option Addr) (n cap : Nat) (hn : n ≤ cap) :
    Calls Try.prog 27 #[.slice A n cap] w fun en w' => en = .returned (.slice A n n) ∧ Below w.heap.size w w' := by
  have e1 : (n : Int) ≤ (cap : Int) := by omega
  go_enter Try.func27, Try.ntmps27
  go_wp2_with fail
  go_ret
  exact ⟨rfl, Below.refl _ _⟩
end Go.Proofs.Ytankhjchdnfpfaa
