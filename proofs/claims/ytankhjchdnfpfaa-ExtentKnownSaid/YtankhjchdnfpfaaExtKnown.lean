/-
  Files in parts: ExtentKnown, the law's walk.
-/
import Derived.Test.YtankhjchdnfpfaaExtPlays
import Derived.Test.YtankhjchdnfpfaaExtOdd
namespace Go.Proofs.Ytankhjchdnfpfaa
open Go.RowKit
attribute [local go_sem] match_undef Oper.growAt Oper.growUpon GSpec.fix GSpec.row GSpec.wh GSpec.own GSpec.fout GSpec.rowc rowFlat
attribute [local irreducible] wpList
theorem actV : ElemOK Try.prog 23 40 3 56 := ElemOK.mk_ (z := .agg #[.int .i64 0, .slice none 0 0, .slice none 0 0]) Try.underlying23 (by kernel_rfl) rfl (by omega)
/-- Cells of acts whose bytes and Booleans lie in memory of one's own. -/
def OwnAc (w : World) (acts : List Ac) (vs : List Value) : Prop :=
  vs.length = acts.length * 3 ∧ ∀ j (hj : j < acts.length), ∃ A1 c1 A2 c2, vs[j * 3]? = some (.int .i64 acts[j].1) ∧ vs[j * 3 + 1]? = some (.slice A1 acts[j].2.1.length c1) ∧ vs[j * 3 + 2]? = some (.slice A2 acts[j].2.2.length c2) ∧ w.ownsRow 0 5 1 (.slice A1 acts[j].2.1.length c1) acts[j].2.1.length (byts acts[j].2.1) ∧ w.ownsRow 0 4 1 (.slice A2 acts[j].2.2.length c2) acts[j].2.2.length (bools acts[j].2.2)
theorem OwnAc.nil (w : World) : OwnAc w [] [] := ⟨rfl, fun j hj => absurd hj (by simp)⟩
/-- The same, none of them with Booleans. -/
def OwnA0 (w : World) (acts : List Ac) (vs : List Value) : Prop :=
  vs.length = acts.length * 3 ∧ ∀ j (hj : j < acts.length), ∃ A1 c1, vs[j * 3]? = some (.int .i64 acts[j].1) ∧ vs[j * 3 + 1]? = some (.slice A1 acts[j].2.1.length c1) ∧ vs[j * 3 + 2]? = some (.slice none 0 0) ∧ acts[j].2.2 = [] ∧ w.ownsRow 0 5 1 (.slice A1 acts[j].2.1.length c1) acts[j].2.1.length (byts acts[j].2.1)
theorem OwnA0.nil (w : World) : OwnA0 w [] [] := ⟨rfl, fun j hj => absurd hj (by simp)⟩
theorem OwnA0.full {w : World} {acts : List Ac} {vs : List Value} (h : OwnA0 w acts vs) : OwnAc w acts vs :=
  ⟨h.1, fun j hj => by
    obtain ⟨A1, c1, h1, h2, h3, h4, h5⟩ := h.2 j hj
    refine ⟨A1, c1, none, 0, h1, h2, ?_, h5, ?_⟩
    · rw [h4]; exact h3
    · rw [h4]; exact World.ownsRow_nil _ _ _ _⟩
theorem OwnA0.ext {w w' : World} {acts : List Ac} {vs : List Value} (h : OwnA0 w acts vs) (k : Below w.heap.size w w') : OwnA0 w' acts vs :=
  ⟨h.1, fun j hj => by obtain ⟨A1, c1, h1, h2, h3, h4, h5⟩ := h.2 j hj; exact ⟨A1, c1, h1, h2, h3, h4, own_ext h5 k⟩⟩
theorem OwnA0.kept {w w' : World} {acts : List Ac} {vs ys : List Value} {base s n : Nat} {t : TypeId} {u : Value} (h : OwnA0 w acts vs) (hg : w.grownBy w' u.ownBlock) (hu : w.ownsRow base t s u n ys) (h1 : 5 ≠ t) : OwnA0 w' acts vs :=
  ⟨h.1, fun j hj => by obtain ⟨A1, c1, e1, e2, e3, e4, e5⟩ := h.2 j hj; exact ⟨A1, c1, e1, e2, e3, e4, own_kept e5 hg hu h1⟩⟩
theorem OwnA0.snoc {w : World} {acts : List Ac} {vs : List Value} (h : OwnA0 w acts vs) {z : Int} {bs : List UInt8} {A1 : Option Addr} {m c1 : Nat} (hm : bs.length = m) (h1 : w.ownsRow 0 5 1 (.slice A1 m c1) m (byts bs)) :
    OwnA0 w (acts ++ [(z, bs, [])]) (vs ++ [.int .i64 z, .slice A1 m c1, .slice none 0 0]) := by
  subst hm
  refine ⟨by simp [h.1]; omega, fun j hj => ?_⟩
  rw [List.length_append, List.length_singleton] at hj
  by_cases hlt : j < acts.length
  · obtain ⟨B1, d1, e1, e2, e3, e4, e5⟩ := h.2 j hlt
    rw [List.getElem_append_left hlt]
    exact ⟨B1, d1, by rw [List.getElem?_append_left (by rw [h.1]; omega)]; exact e1, by rw [List.getElem?_append_left (by rw [h.1]; omega)]; exact e2, by rw [List.getElem?_append_left (by rw [h.1]; omega)]; exact e3, e4, e5⟩
  · obtain rfl : j = acts.length := by omega
    rw [List.getElem_concat_length rfl]
    refine ⟨A1, c1, ?_, ?_, ?_, rfl, h1⟩
    · rw [← h.1, List.getElem?_append_right (Nat.le_refl _)]; simp
    · rw [← h.1, List.getElem?_append_right (by omega)]; simp
    · rw [← h.1, List.getElem?_append_right (by omega)]; simp
theorem OwnAc.ext {w w' : World} {acts : List Ac} {vs : List Value} (h : OwnAc w acts vs) (k : Below w.heap.size w w') : OwnAc w' acts vs :=
  ⟨h.1, fun j hj => by obtain ⟨A1, c1, A2, c2, h1, h2, h3, h4, h5⟩ := h.2 j hj; exact ⟨A1, c1, A2, c2, h1, h2, h3, own_ext h4 k, own_ext h5 k⟩⟩
theorem OwnAc.kept {w w' : World} {acts : List Ac} {vs ys : List Value} {base s n : Nat} {t : TypeId} {u : Value} (h : OwnAc w acts vs) (hg : w.grownBy w' u.ownBlock) (hu : w.ownsRow base t s u n ys) (h1 : 5 ≠ t) (h2 : 4 ≠ t) : OwnAc w' acts vs :=
  ⟨h.1, fun j hj => by obtain ⟨A1, c1, A2, c2, e1, e2, e3, e4, e5⟩ := h.2 j hj; exact ⟨A1, c1, A2, c2, e1, e2, e3, own_kept e4 hg hu h1, own_kept e5 hg hu h2⟩⟩
theorem OwnAc.snoc {w : World} {acts : List Ac} {vs : List Value} (h : OwnAc w acts vs) {z : Int} {bs : List UInt8} {ks : List Bool} {A1 A2 : Option Addr} {m c1 q c2 : Nat} (hm : bs.length = m) (hq : ks.length = q) (h1 : w.ownsRow 0 5 1 (.slice A1 m c1) m (byts bs)) (h2 : w.ownsRow 0 4 1 (.slice A2 q c2) q (bools ks)) :
    OwnAc w (acts ++ [(z, bs, ks)]) (vs ++ [.int .i64 z, .slice A1 m c1, .slice A2 q c2]) := by
  subst hm hq
  refine ⟨by simp [h.1]; omega, fun j hj => ?_⟩
  rw [List.length_append, List.length_singleton] at hj
  by_cases hlt : j < acts.length
  · obtain ⟨B1, d1, B2, d2, e1, e2, e3, e4, e5⟩ := h.2 j hlt
    rw [List.getElem_append_left hlt]
    exact ⟨B1, d1, B2, d2, by rw [List.getElem?_append_left (by rw [h.1]; omega)]; exact e1, by rw [List.getElem?_append_left (by rw [h.1]; omega)]; exact e2, by rw [List.getElem?_append_left (by rw [h.1]; omega)]; exact e3, e4, e5⟩
  · obtain rfl : j = acts.length := by omega
    rw [List.getElem_concat_length rfl]
    refine ⟨A1, c1, A2, c2, ?_, ?_, ?_, h1, h2⟩
    · rw [← h.1, List.getElem?_append_right (Nat.le_refl _)]; simp
    · rw [← h.1, List.getElem?_append_right (by omega)]; simp
    · rw [← h.1, List.getElem?_append_right (by omega)]; simp
theorem RdAc.of_own {w : World} {base N c : Nat} {A : Option Addr} {acts : List Ac} {vs : List Value} (hl : acts.length = N) (h : w.ownsRow base 40 3 (.slice A N c) N vs) (hf : OwnAc w acts vs) : RdAc w w.heap.size A N acts := by
  subst hl
  refine ⟨rfl, fun j hj => ?_⟩
  obtain ⟨b, o, e, hb, hc⟩ := (Rd.of_own h).2 (by omega)
  obtain ⟨A1, c1, A2, c2, h1, h2, h3, h4, h5⟩ := hf.2 j hj
  exact ⟨b, o, A1, c1, A2, c2, e, hb, hc _ _ h1, hc _ _ h2, hc _ _ h3, Rd.of_own h4, (own_cap h4).1, Rd.of_own h5, (own_cap h5).1⟩
theorem one_act (z : Int) (A1 : Option Addr) (m c1 : Nat) (A2 : Option Addr) (q c2 : Nat) : ∀ u ∈ [Value.int .i64 z, .slice A1 m c1, .slice A2 q c2], u.oneCell' = true := by
  intro u hu
  simp only [List.mem_cons, List.not_mem_nil, or_false] at hu
  rcases hu with rfl | rfl | rfl <;> rfl
/-- A new row, read. -/
theorem new_rd (w : World) (t : TypeId) (s : Nat) (vs : List Value) (h : vs.length = s) : Rd (w.alloc (.cells vs.toArray t)) (w.alloc (.cells vs.toArray t)).heap.size s (some ⟨w.heap.size, 0, none⟩) 1 vs :=
  ⟨by rw [h, Nat.one_mul], fun _ => ⟨w.heap.size, 0, rfl, (Whole.new w t vs.toArray).lt, fun a u hu => by rw [Nat.zero_add, (Whole.new w t vs.toArray).cell a, ← hu]; simp⟩⟩
theorem known_ne : 5 ≠ 40 ∧ 4 ≠ 40 ∧ 52 ≠ 40 ∧ 40 ≠ 52 ∧ 52 ≠ 4 ∧ 40 ≠ 4 ∧ 5 ≠ 4 ∧ 4 ≠ 52 ∧ 5 ≠ 52 := by decide
theorem u8_of (v : Int) (h0 : 0 ≤ v) (h1 : v < 256) : ∃ x : UInt8, v = (x.toNat : Nat) := ⟨UInt8.ofNat v.toNat, by rw [UInt8.toNat_ofNat']; omega⟩
section
variable {P : Program} {w : World}
/-- append, guarded, its guard holding. -/
theorem wpList_append_rdg {ops : Array Oper} {rest : List Oper} {o : Oper} {a : Act} {Q : Exit → Act → World → Prop} (hwn : Region.wanted o (yielded ops a.tmps) = true) (s x : Operand) (t : TypeId)
    (ho : o.op = .call { callee := .builtin .append, args := #[s, x], argTypes := #[t, t] })
    {e : TypeId} {size bytes : Nat} (he : ElemOK P t e size bytes) (base : Nat)
    (v : Value) (n : Nat) (xs : List Value) (hs : a.eval s = v) (hown : w.ownsRow base e size v n xs)
    (B : Nat) (A : Option Addr) (m c : Nat) (news : List Value) (hx : a.eval x = .slice A m c) (hr : Rd w B size A m news) (h1 : ∀ u ∈ news, u.oneCell' = true)
    (h63 : n + m ≤ maxLen) (hbytes : (n + m) * bytes ≤ 140737488355328) (hbase : base ≤ w.heap.size)
    (h : ∀ A' c' w', w'.ownsRow base e size (.slice A' (n + m) c') (n + m) (xs ++ news) → Below base w w' → w.grownBy w' v.ownBlock → ((Value.slice A' (n + m) c').ownBlock = v.ownBlock ∨ (Value.slice A' (n + m) c').ownBlock = some w.heap.size) →
      wpList P ops Q rest (a.put o.dst (.slice A' (n + m) c')) w') : wpList P ops Q (o :: rest) a w :=
  wpList_step fun _ hK => by
    rw [if_pos hwn]
    exact wp_append_rd w s x t ho he base v n xs hs hown B A m c news hx hr h1 h63 hbytes hbase fun A' c' w' h2 h3 h4 h5 => hK _ _ (h A' c' w' h2 h3 h4 h5)
end
theorem bools_take (ks : List Bool) (q : Nat) : (bools ks).take q = bools (ks.take q) := List.map_take.symm
theorem rd_whole {w : World} {g : Nat} {cs : Array Value} {k : Nat × Nat} {xs : List UInt8} {n : Nat} (hw : w.heap[g]? = some (.cells cs 5 k)) (hx : byts xs = cs.toList) (hn : xs.length = n) : Rd w w.heap.size 1 (some ⟨g, 0, none⟩) n (byts xs) := by
  subst hn
  refine ⟨by rw [byts_length, Nat.mul_one], fun _ => ⟨g, 0, rfl, (Array.getElem?_eq_some_iff.1 hw).1, fun j u hu => ?_⟩⟩
  rw [Nat.zero_add]
  unfold World.cell?
  rw [hw]
  rw [hx] at hu
  simpa using hu
set_option maxHeartbeats 400000 in
theorem app_nil (w : World) (A : Option Addr) (n c : Nat) : Calls Try.prog 17 #[.pointer none, .slice A n c] w fun en w' => en = .returned (.tuple #[]) ∧ Below w.heap.size w w' := by
  go_enter Try.func17, Try.ntmps17
  go_wp2_with fail
  refine bodyPost_ret (results_none rfl _ _ _) rfl ?_
  exact ⟨rfl, Below.refl _ _⟩
set_option maxHeartbeats 400000 in
theorem sync_nil (w : World) : Calls Try.prog 13 #[.pointer none] w fun en w' => en = .returned (.tuple #[]) ∧ Below w.heap.size w w' := by
  go_enter Try.func13, Try.ntmps13
  go_wp2_with fail
  refine bodyPost_ret (results_none rfl _ _ _) rfl ?_
  exact ⟨rfl, Below.refl _ _⟩
set_option maxHeartbeats 400000 in
theorem fail_nil (w : World) (A : Option Addr) (n c : Nat) : Calls Try.prog 15 #[.pointer none, .slice A n c] w fun en w' => en = .returned (.tuple #[]) ∧ Below w.heap.size w w' := by
  go_enter Try.func15, Try.ntmps15
  go_step3
  go_wp2_with fail
  (try rw [Exit.noGoto_ret])
  refine bodyPost_ret (results_none rfl _ _ _) rfl ?_
  exact ⟨rfl, Below.refl _ _⟩
theorem rd_nil (w : World) (s : Nat) : Rd w w.heap.size s none 0 [] := ⟨by simp, fun h => absurd h (by omega)⟩
theorem rows_nil (w : World) : RdRows w w.heap.size none 0 [] := ⟨rfl, fun j hj => absurd hj (by omega)⟩
theorem acts_nil (w : World) : RdAc w w.heap.size none 0 [] := ⟨rfl, fun j hj => absurd hj (by simp)⟩
theorem three_parts {w : World} {g : Nat} {A : Option Addr} (hw : Whole w g 52 #[.slice none 0 0, .bool false, .slice A 1 1, .bool false, .slice none 0 0, .bool true]) (hr : Rd w w.heap.size 1 A 1 (byts [120])) : RdPa w w.heap.size (some ⟨g, 0, none⟩) 3 [([], false), ([120], false), ([], true)] := by
  refine ⟨rfl, fun j hj => ?_⟩
  have h3 : j = 0 ∨ j = 1 ∨ j = 2 := by simp at hj; omega
  rcases h3 with rfl | rfl | rfl
  · exact ⟨g, 0, none, 0, rfl, hw.lt, by rw [hw.cell]; rfl, by rw [hw.cell]; rfl, Nat.le_refl _, Nat.zero_le _, rd_nil _ _⟩
  · exact ⟨g, 0, A, 1, rfl, hw.lt, by rw [hw.cell]; rfl, by rw [hw.cell]; rfl, Nat.le_refl _, by unfold maxLen; omega, hr⟩
  · exact ⟨g, 0, none, 0, rfl, hw.lt, by rw [hw.cell]; rfl, by rw [hw.cell]; rfl, Nat.le_refl _, Nat.zero_le _, rd_nil _ _⟩
theorem known_ne2 : 26 ≠ 40 ∧ 40 ≠ 26 ∧ 40 ≠ 5 := by decide
/-- 1 << (2 * n). -/
theorem shl_four (n : Nat) (hn : n < 6) : ∃ S : Nat, S ≤ 1024 ∧ wrap64 ((2 : Int) ^ (2 * n)) = (S : Nat) := by
  have h : n = 0 ∨ n = 1 ∨ n = 2 ∨ n = 3 ∨ n = 4 ∨ n = 5 := by omega
  rcases h with rfl | rfl | rfl | rfl | rfl | rfl
  · exact ⟨1, by omega, by unfold wrap64; rfl⟩
  · exact ⟨4, by omega, by unfold wrap64; rfl⟩
  · exact ⟨16, by omega, by unfold wrap64; rfl⟩
  · exact ⟨64, by omega, by unfold wrap64; rfl⟩
  · exact ⟨256, by omega, by unfold wrap64; rfl⟩
  · exact ⟨1024, by omega, by unfold wrap64; rfl⟩
set_option maxRecDepth 100000 in
set_option maxHeartbeats 16000000 in
theorem known_any (w : World) : Calls Try.prog 5 #[] w fun en w' => en = .returned (.bool true) ∧ Below w.heap.size w w' := by
  have kc := fun (w : World) (C : Array Value) (n c : Nat) => Lib.run_convert_bytes_const (P := Try.prog) w 26 5 C n c Try.underlying26 Try.underlying5
  have HWK := Lib.hid works_any
  go_enter Try.func5, Try.ntmps5
  go_wp2_with fail
  go_loopw [1, 2, 3, 4, 5, 6, 7] (fun n _ _ _ _ _ _ wr => ∃ k : Nat, k ≤ 6 ∧ n = .int .i64 k ∧ Hid (Below w.heap.size w wr)) (fun n _ _ _ _ _ _ _ => 6 - (intOf n).toNat)
  case atStart => exact ⟨0, by omega, rfl, Below.refl _ _⟩
  case round =>
    obtain ⟨n, hn, rfl, HB⟩ := hrel
    by_cases hlt : n < 6
    · have hd : decide ((n : Int) < 6) = true := by simp; omega
      obtain ⟨S, hS, hshl⟩ := shl_four n hlt
      go_wp2_with fail
      go_loopw [2, 3, 4, 5, 6, 7] (fun b _ _ _ _ _ wx => ∃ k : Nat, k ≤ 2000 ∧ b = .int .i64 k ∧ Hid (Below w.heap.size w wx)) (fun b _ _ _ _ _ _ => 2000 - (intOf b).toNat)
      case atStart => exact ⟨0, by omega, rfl, HB⟩
      case round =>
        clear HB
        obtain ⟨B, hB, rfl, HB⟩ := hrel
        by_cases hBS : B < S
        · have hd2 : decide ((B : Int) < (S : Int)) = true := by simp; omega
          go_wp2_with fail
          clear hshl
          go_loopw [3, 4, 5, 6, 7] (fun v3 v4 v5 v6 _ wx => ∃ (i : Nat) (D3 : Option Addr) (c3 : Nat) (D4 : Option Addr) (c4 : Nat) (D5 : Option Addr) (c5 : Nat) (fs : List Pa) (ks : List Bool) (acts : List Ac), i ≤ n ∧ v6 = .int .i64 i ∧ v3 = .slice D3 i c3 ∧ v4 = .slice D4 i c4 ∧ v5 = .slice D5 i c5 ∧
            Hid (fs.length = i ∧ (∃ vs, wx.ownsRow w.heap.size 52 2 (.slice D3 i c3) i vs ∧ OwnPa wx AnyG 5 fs vs) ∧ ∀ p ∈ fs, p.1.length ≤ 2) ∧ Hid (ks.length = i ∧ wx.ownsRow w.heap.size 4 1 (.slice D4 i c4) i (bools ks)) ∧ Hid (acts.length = i ∧ ∃ vs, wx.ownsRow w.heap.size 40 3 (.slice D5 i c5) i vs ∧ OwnA0 wx acts vs) ∧ Hid (Below w.heap.size w wx)) (fun _ _ _ v _ _ => n - (intOf v).toNat)
          case atStart => exact ⟨0, none, 0, none, 0, none, 0, [], [], [], by omega, rfl, rfl, rfl, rfl, ⟨rfl, ⟨[], World.ownsRow_nil _ _ _ _, OwnPa.nil _ _ _⟩, fun p hp => by cases hp⟩, ⟨rfl, World.ownsRow_nil _ _ _ _⟩, ⟨rfl, [], World.ownsRow_nil _ _ _ _, OwnA0.nil _⟩, HB⟩
          case round =>
            clear HB
            rename World => wx
            obtain ⟨i, D3, c3, D4, c4, D5, c5, fs, ks, acts, hi, rfl, rfl, rfl, rfl, HP, HK, HA, HB⟩ := hrel
            by_cases hin : i < n
            · have hd3 : decide ((i : Int) < (n : Int)) = true := by simp; omega
              obtain ⟨k, hk41, hk1, hk2⟩ : ∃ k : Nat, IntKind.i64.wrap (1 + (i : Int).tmod 2) = (k : Nat) ∧ 1 ≤ k ∧ k ≤ 2 := by
                have e1 : (i : Int).tmod 2 = ((i % 2 : Nat) : Int) := by rw [Int.tmod_eq_emod_of_nonneg (by omega)]; omega
                refine ⟨1 + i % 2, ?_, by omega, by omega⟩
                rw [e1, IntKind.wrap_i64]
                omega
              have hk3 : (k : Int) ≤ 2 := by omega
              have hk4 : (0 : Int) ≤ (k : Int) := by omega
              have hi64 : (i : Int) ≤ 64 := by omega
              obtain ⟨x1, hx1⟩ : ∃ x : UInt8, (97 + (i : Int)) = (x.toNat : Nat) := ⟨UInt8.ofNat (97 + i), by rw [UInt8.toNat_ofNat']; omega⟩
              obtain ⟨x2, hx2⟩ : ∃ x : UInt8, wrap64 ((i : Int) * (B : Int)) % 256 = (x.toNat : Nat) := u8_of _ (Int.emod_nonneg _ (by decide)) (Int.emod_lt_of_pos _ (by decide))
              obtain ⟨gb, hgb⟩ : ∃ g, wx.heap.size = g := ⟨_, rfl⟩
              have hob := World.ownsRow_lit (base := wx.heap.size) (e := 5) (size := 1) wx #[.int .u8 (97 + (i : Int)), .int .u8 (wrap64 ((i : Int) * (B : Int)) % 256)] 2 (Nat.le_refl _) (by unfold maxLen; omega) (by simp)
              have hxx : (#[Value.int .u8 (97 + (i : Int)), .int .u8 (wrap64 ((i : Int) * (B : Int)) % 256)] : Array Value).toList = byts [x1, x2] := by
                show [Value.int .u8 (97 + (i : Int)), .int .u8 (wrap64 ((i : Int) * (B : Int)) % 256)] = [Value.int .u8 (x1.toNat : Nat), .int .u8 (x2.toNat : Nat)]
                rw [hx1, hx2]
              rw [hxx] at hob
              have hba := below1 wx (.cells #[.int .u8 (97 + (i : Int)), .int .u8 (wrap64 ((i : Int) * (B : Int)) % 256)] 5)
              have HOB := Lib.hid (own_base hob (Nat.zero_le _))
              obtain ⟨hp1, ⟨vs3, hp2, hp3⟩, hp4⟩ := HP.out
              obtain ⟨hk1', hk2'⟩ := HK.out
              obtain ⟨ha1, vs5, ha2, ha3⟩ := HA.out
              have HP2 := Lib.hid (own_ext hp2 hba)
              have HP3 := Lib.hid (hp3.ext hba)
              have HK2 := Lib.hid (own_ext hk2' hba)
              have HA2 := Lib.hid (own_ext ha2 hba)
              have HA3 := Lib.hid (ha3.ext hba)
              have HP1 := Lib.hid hp1
              have HP4 := Lib.hid hp4
              have HK1 := Lib.hid hk1'
              have HA1 := Lib.hid ha1
              have HBW := Lib.hid (HB.out.trans (hba.mono HB.out.size))
              rw [hgb] at HOB
              clear hx1 hx2 hxx hob hba hp1 hp2 hp3 hp4 hk1' hk2' ha1 ha2 ha3 HP HK HA HB
              go_wp2_with fail
              generalize wx.alloc (.cells #[.int .u8 (97 + (i : Int)), .int .u8 (wrap64 ((i : Int) * (B : Int)) % 256)] 5) = W1 at HOB HP2 HP3 HK2 HA2 HA3 HBW ⊢
              clear hgb
              refine wp_region_tail 13 (fun k' => List.lookup k' [(12, .rowc 52 1)]) (by as_aux_lemma => kernel_rfl) (by as_aux_lemma => kernel_rfl) (by as_aux_lemma => kernel_rfl) ?_
              simp only [List.take_succ_cons, List.take_zero]
              repeat (refine wpGrow_pure rfl (fun K hK => ?_); go_simp; refine hK.out _ ?_; clear hK K)
              refine wpGrow_eff _ rfl (fun wy he hcl => ?_) (fun (g49 : Nat) K hK => ?_) rfl
              · clear hcl
                go_simp
                exact ⟨Whole.new _ _ _, (Below.refl _ _).alloc (Nat.le_refl _) _⟩
              go_simp
              refine hK.out _ ?_
              clear hK K
              refine wpGrow_nil fun wy he hfin => ?_
              have hw49 : Whole wy g49 52 #[.slice (some ⟨gb, 0, none⟩) k 2, .bool (((B : Int) / 2 ^ i).tmod 2 == 1)] := hfin.out 12
              clear hfin
              obtain ⟨d, hd0⟩ : ∃ d, (((B : Int) / 2 ^ i).tmod 2 == 1) = d := ⟨_, rfl⟩
              rw [hd0] at hw49
              have HRD := Lib.hid (show Rd wy wy.heap.size 2 (some ⟨g49, 0, none⟩) 1 [.slice (some ⟨gb, 0, none⟩) k 2, .bool d] from ⟨rfl, fun _ => ⟨g49, 0, rfl, hw49.lt, fun a u hu => by
                rw [Nat.zero_add, hw49.cell a, ← hu]
                simp⟩⟩)
              have HOB2 := Lib.hid (own_ext HOB.out he)
              have HOK := Lib.hid (show wy.ownsRow 0 5 1 (.slice (some ⟨gb, 0, none⟩) k 2) k (byts ([x1, x2].take k)) from by
                have := own_short HOB2.out hk2
                rw [Nat.mul_one, ← byts_take] at this
                exact this)
              have HP2y := Lib.hid (own_ext HP2.out he)
              have HP3y := Lib.hid (HP3.out.ext he)
              have HK2y := Lib.hid (own_ext HK2.out he)
              have HA2y := Lib.hid (own_ext HA2.out he)
              have HA3y := Lib.hid (HA3.out.ext he)
              have hbw := HBW.out.trans (he.mono HBW.out.size)
              have hs7 := hbw.size
              have HBY := Lib.hid hbw
              have hkl : ([x1, x2].take k).length = k := by simp; omega
              have HKL := Lib.hid hkl
              clear hw49 he hbw HBW HP2 HP3 HK2 HA2 HA3 HOB hkl
              simp only [List.drop_succ_cons, List.drop_zero]
              go_wp2_with first
                | (at_builtin; refine wpList_append_rd _ rfl (.tmp 37) (.tmp 49) _ rfl partV w.heap.size _ i _ rfl HP2y.out wy.heap.size (some ⟨g49, 0, none⟩) 1 1 _ rfl HRD.out (one_part _ _ _ _) (by unfold maxLen; omega) (by omega) hs7 ?_; intro D7 c7 w8 ho8 hb8 hg8 _; have HPA := Lib.hid ((HP3y.out.snoc (d := d) HKL.out HOK.out (fun _ _ _ => trivial)).kept hg8 HP2y.out known_ne.2.2.2.2.2.2.2.2); have HPO := Lib.hid ho8; have HK8 := Lib.hid (own_kept HK2y.out hg8 HP2y.out known_ne.2.2.2.2.2.2.2.1); have HA8 := Lib.hid (own_kept HA2y.out hg8 HP2y.out known_ne.2.2.2.1); have HC8 := Lib.hid (HA3y.out.kept hg8 HP2y.out known_ne.2.2.2.2.2.2.2.2); have HB8 := Lib.hid (HBY.out.trans hb8); have HD8 := Lib.hid (own_kept HOB2.out hg8 HP2y.out known_ne.2.2.2.2.2.2.2.2); have hs8 : ∀ o, w.heap.size ≤ (w8.alloc o).heap.size := fun o => Nat.le_trans HB8.out.size (below1 w8 o).size; clear ho8 hb8 hg8)
                | (at_builtin; refine wpList_append_rd _ rfl (.tmp 51) (.tmp 59) _ rfl boolE w.heap.size _ i _ rfl (own_ext HK8.out (below1 w8 _)) _ (some ⟨w8.heap.size, 0, none⟩) 1 1 _ rfl (new_rd w8 4 1 [_] rfl) (bools_one [_]) (by unfold maxLen; omega) (by omega) (hs8 _) ?_; intro D9 c9 w9 ho9 hb9 hg9 _; have HP9 := Lib.hid (own_kept (own_ext HPO.out (below1 w8 _)) hg9 (own_ext HK8.out (below1 w8 _)) known_ne.2.2.2.2.1); have HPB := Lib.hid ((HPA.out.ext (below1 w8 _)).kept hg9 (own_ext HK8.out (below1 w8 _)) known_ne.2.2.2.2.2.2.1); have HK9 := Lib.hid (show ∃ b, w9.ownsRow w.heap.size 4 1 (.slice D9 (i + 1) c9) (i + 1) (bools (ks ++ [b])) from ⟨_, by rw [bools_append]; exact ho9⟩); have HA9 := Lib.hid (own_kept (own_ext HA8.out (below1 w8 _)) hg9 (own_ext HK8.out (below1 w8 _)) known_ne.2.2.2.2.2.1); have HC9 := Lib.hid ((HC8.out.ext (below1 w8 _)).kept hg9 (own_ext HK8.out (below1 w8 _)) known_ne.2.2.2.2.2.2.1); have HB9 := Lib.hid ((HB8.out.trans ((below1 w8 _).mono HB8.out.size)).trans hb9); have HD9 := Lib.hid (own_kept (own_ext HD8.out (below1 w8 _)) hg9 (own_ext HK8.out (below1 w8 _)) known_ne.2.2.2.2.2.2.1); have hs9 : ∀ o, w.heap.size ≤ (w9.alloc o).heap.size := fun o => Nat.le_trans HB9.out.size (below1 w9 o).size; clear ho9 hb9 hg9)
                | (at_builtin; refine wpList_append_rd _ rfl (.tmp 61) (.tmp 69) _ rfl actV w.heap.size _ i _ rfl (own_ext HA9.out (below1 w9 _)) _ (some ⟨w9.heap.size, 0, none⟩) 1 1 _ rfl (new_rd w9 40 3 [_, _, _] rfl) (one_act _ _ _ _ _ _ _) (by unfold maxLen; omega) (by omega) (hs9 _) ?_; intro D11 c11 w10 ho10 hb10 hg10 _; have HP10 := Lib.hid (own_kept (own_ext HP9.out (below1 w9 _)) hg10 (own_ext HA9.out (below1 w9 _)) known_ne.2.2.1); have HPC := Lib.hid ((HPB.out.ext (below1 w9 _)).kept hg10 (own_ext HA9.out (below1 w9 _)) known_ne.1); have HK10 := Lib.hid (show ∃ b, w10.ownsRow w.heap.size 4 1 (.slice D9 (i + 1) c9) (i + 1) (bools (ks ++ [b])) from HK9.out.imp fun b hb => own_kept (own_ext hb (below1 w9 _)) hg10 (own_ext HA9.out (below1 w9 _)) known_ne.2.1); have HC10 := Lib.hid (show ∃ (z : Int) (vs : List Value), w10.ownsRow w.heap.size 40 3 (.slice D11 (i + 1) c11) (i + 1) vs ∧ OwnA0 w10 (acts ++ [(z, [x1, x2], [])]) vs from ⟨_, _, ho10, ((HC9.out.ext (below1 w9 _)).kept hg10 (own_ext HA9.out (below1 w9 _)) known_ne.1).snoc rfl (own_kept (own_ext HD9.out (below1 w9 _)) hg10 (own_ext HA9.out (below1 w9 _)) known_ne.1)⟩); have hb11 := (HB9.out.trans ((below1 w9 _).mono HB9.out.size)).trans hb10; have HB11 := Lib.hid hb11; clear ho10 hb10 hg10 hb11)
              obtain ⟨b, hkb⟩ := HK10.out
              obtain ⟨zz, vz, hz1, hz2⟩ := HC10.out
              have G1 := Lib.hid (show (fs ++ [([x1, x2].take k, d)]).length = i + 1 ∧ (∃ vs, w10.ownsRow w.heap.size 52 2 (.slice D7 (i + 1) c7) (i + 1) vs ∧ OwnPa w10 AnyG 5 (fs ++ [([x1, x2].take k, d)]) vs) ∧ ∀ p ∈ fs ++ [([x1, x2].take k, d)], p.1.length ≤ 2 from ⟨by rw [List.length_append, HP1.out]; rfl, ⟨_, HP10.out, HPC.out⟩, fun p hp => by
                rcases List.mem_append.1 hp with hp | hp
                · exact HP4.out p hp
                · rw [List.mem_singleton] at hp
                  rw [hp]
                  show ([x1, x2].take k).length ≤ 2
                  rw [HKL.out]
                  exact hk2⟩)
              have G2 := Lib.hid (show (ks ++ [b]).length = i + 1 ∧ w10.ownsRow w.heap.size 4 1 (.slice D9 (i + 1) c9) (i + 1) (bools (ks ++ [b])) from ⟨by rw [List.length_append, HK1.out]; rfl, hkb⟩)
              have G3 := Lib.hid (show (acts ++ [(zz, [x1, x2], [])]).length = i + 1 ∧ ∃ vs, w10.ownsRow w.heap.size 40 3 (.slice D11 (i + 1) c11) (i + 1) vs ∧ OwnA0 w10 (acts ++ [(zz, [x1, x2], [])]) vs from ⟨by rw [List.length_append, HA1.out]; rfl, vz, hz1, hz2⟩)
              clear hkb hz1 hz2 HK10 HC10
              go_roundw
              case rel => exact ⟨i + 1, D7, c7, D9, c9, D11, c11, _, _, _, by omega, by go_num, rfl, rfl, rfl, G1, G2, G3, HB11⟩
              case measure => simp [intOf] <;> omega
            · obtain rfl : i = n := by omega
              have hd3 : decide ((i : Int) < (i : Int)) = false := by simp
              obtain ⟨hp1, ⟨vs3, hp2, hp3⟩, hp4⟩ := HP.out
              obtain ⟨hk1', hk2'⟩ := HK.out
              obtain ⟨ha1, vs5, ha2, ha3⟩ := HA.out
              have hcD := own_cap hk2'
              have HC := Lib.hid (odd_any wx D3 i c3 fs (RdPa.of_own hp1 hp2 hp3) (by omega) (fun p hp => by have := hp4 p hp; omega) 3 none 0 0 [] ⟨rfl, fun h => absurd h (by omega)⟩ (Nat.le_refl _) (by omega) D4 i c4 ks (Rd.of_own hk2') hcD.1 (by omega))
              have HP2 := Lib.hid hk2'
              have HA2 := Lib.hid ha2
              have HA3 := Lib.hid ha3
              have HK1 := Lib.hid hk1'
              have HA1 := Lib.hid ha1
              clear hp1 hp2 hp3 hp4 hk1' hk2' ha1 ha2 ha3 HP HK HA
              go_wp2_with fail
              refine HC.out.mono ?_
              clear HC
              rintro en w1 ⟨rfl, hb1⟩
              have hb2 := HB.out.trans (hb1.mono HB.out.size)
              have hk1x := own_ext HP2.out hb1
              have hkh := own_short hk1x (show i / 2 ≤ i by omega)
              rw [Nat.mul_one, bools_take] at hkh
              have HC := Lib.hid (keeps_any w1 D5 i c5 acts (RdAc.of_own HA1.out (own_ext HA2.out hb1) (HA3.out.full.ext hb1)) (by omega) D4 i c4 ks (Rd.of_own hk1x) hcD.1 D4 (i / 2) c4 (ks.take (i / 2)) (Rd.of_own hkh) (by omega))
              have HP2n := Lib.hid hk1x
              have HA2n := Lib.hid (own_ext HA2.out hb1)
              have HA3n := Lib.hid (HA3.out.ext hb1)
              have HBn := Lib.hid hb2
              clear hb1 hb2 hk1x hkh HP2 HA2 HA3 HB
              go_wp2_with fail
              refine HC.out.mono ?_
              clear HC
              rintro en w2 ⟨rfl, hb1⟩
              have x1 := below1 w2 (.cells #[.int .u8 1] 5)
              have x2 := x1.trans ((below1 (w2.alloc (.cells #[.int .u8 1] 5)) (.cells #[.int .u8 2, .int .u8 3] 5)).mono x1.size)
              have x3 := x2.trans ((below1 ((w2.alloc (.cells #[.int .u8 1] 5)).alloc (.cells #[.int .u8 2, .int .u8 3] 5)) (.cells #[.slice (some ⟨w2.heap.size, 0, none⟩) 1 1, .slice none 0 0, .slice (some ⟨w2.heap.size + 1, 0, none⟩) 2 2] 26)).mono x2.size)
              have x4 := x3.trans ((below1 (((w2.alloc (.cells #[.int .u8 1] 5)).alloc (.cells #[.int .u8 2, .int .u8 3] 5)).alloc (.cells #[.slice (some ⟨w2.heap.size, 0, none⟩) 1 1, .slice none 0 0, .slice (some ⟨w2.heap.size + 1, 0, none⟩) 2 2] 26)) (.cells #[.int .i64 3, .slice none 0 0, .slice D4 i c4] 40)).mono x3.size)
              have z1 : (w2.alloc (.cells #[.int .u8 1] 5)).heap.size = w2.heap.size + 1 := by simp
              have z2 : ((w2.alloc (.cells #[.int .u8 1] 5)).alloc (.cells #[.int .u8 2, .int .u8 3] 5)).heap.size = w2.heap.size + 1 + 1 := by simp
              have z3 : (((w2.alloc (.cells #[.int .u8 1] 5)).alloc (.cells #[.int .u8 2, .int .u8 3] 5)).alloc (.cells #[.slice (some ⟨w2.heap.size, 0, none⟩) 1 1, .slice none 0 0, .slice (some ⟨w2.heap.size + 1, 0, none⟩) 2 2] 26)).heap.size = w2.heap.size + 1 + 1 + 1 := by simp
              have v1 := ((((Whole.new w2 5 #[.int .u8 1]).alloc (.cells #[.int .u8 2, .int .u8 3] 5)).alloc (.cells #[.slice (some ⟨w2.heap.size, 0, none⟩) 1 1, .slice none 0 0, .slice (some ⟨w2.heap.size + 1, 0, none⟩) 2 2] 26)).alloc (.cells #[.int .i64 3, .slice none 0 0, .slice D4 i c4] 40))
              have v2 := (((Whole.new (w2.alloc (.cells #[.int .u8 1] 5)) 5 #[.int .u8 2, .int .u8 3]).alloc (.cells #[.slice (some ⟨w2.heap.size, 0, none⟩) 1 1, .slice none 0 0, .slice (some ⟨w2.heap.size + 1, 0, none⟩) 2 2] 26)).alloc (.cells #[.int .i64 3, .slice none 0 0, .slice D4 i c4] 40))
              have v3 := ((Whole.new ((w2.alloc (.cells #[.int .u8 1] 5)).alloc (.cells #[.int .u8 2, .int .u8 3] 5)) 26 #[.slice (some ⟨w2.heap.size, 0, none⟩) 1 1, .slice none 0 0, .slice (some ⟨w2.heap.size + 1, 0, none⟩) 2 2]).alloc (.cells #[.int .i64 3, .slice none 0 0, .slice D4 i c4] 40))
              have hrd := new_rd (((w2.alloc (.cells #[.int .u8 1] 5)).alloc (.cells #[.int .u8 2, .int .u8 3] 5)).alloc (.cells #[.slice (some ⟨w2.heap.size, 0, none⟩) 1 1, .slice none 0 0, .slice (some ⟨w2.heap.size + 1, 0, none⟩) 2 2] 26)) 40 3 [.int .i64 3, .slice none 0 0, .slice D4 i c4] rfl
              rw [z1] at v2
              rw [z2] at v3
              rw [z3] at hrd
              have V1 := Lib.hid v1
              have V2 := Lib.hid v2
              have V3 := Lib.hid v3
              have HRD := Lib.hid hrd
              have hx := hb1.trans (x4.mono hb1.size)
              have HP2 := Lib.hid (own_ext HP2n.out hx)
              have HA2 := Lib.hid (own_ext HA2n.out hx)
              have HA3 := Lib.hid (HA3n.out.ext hx)
              have hbx := HBn.out.trans (hx.mono HBn.out.size)
              have hs7 := hbx.size
              have HB := Lib.hid hbx
              clear x1 x2 x3 x4 z1 z2 z3 v1 v2 v3 hrd hx hbx hb1 HP2n HA2n HA3n HBn
              go_wp2_with (at_builtin; refine wpList_append_rdg rfl (.tmp 91) (.tmp 94) _ rfl actV w.heap.size _ i _ rfl HA2.out _ (some ⟨w2.heap.size + 1 + 1 + 1, 0, none⟩) 1 1 _ rfl HRD.out (one_act _ _ _ _ _ _ _) (by unfold maxLen; omega) (by omega) hs7 ?_; intro D12 c12 w3 ho3 hb3 hg3 _; have G1 := Lib.hid (((HA3.out.full.kept hg3 HA2.out known_ne.1 known_ne.2.1).snoc (z := 3) (bs := []) rfl HK1.out (World.ownsRow_nil _ _ _ _) (own_base (own_kept HP2.out hg3 HA2.out known_ne.2.1) (Nat.zero_le _)))); have G2 := Lib.hid ho3; have U1 := Lib.hid (V1.out.kept hg3 HA2.out known_ne2.2.2); have U2 := Lib.hid (V2.out.kept hg3 HA2.out known_ne2.2.2); have U3 := Lib.hid (V3.out.kept hg3 HA2.out known_ne2.2.1); have HB3 := Lib.hid (HB.out.trans hb3); clear ho3 hb3 hg3)
              have hrr : RdRows w3 w3.heap.size (some ⟨w2.heap.size + 1 + 1, 0, none⟩) 3 [[1], [], [2, 3]] := RdRows.of3 U3.out U3.out.lt ⟨Nat.le_refl _, by unfold maxLen; omega⟩ (rd_whole (xs := [1]) U1.out rfl rfl) ⟨Nat.le_refl _, by unfold maxLen; omega⟩ (rd_nil _ _) ⟨Nat.le_refl _, by unfold maxLen; omega⟩ (rd_whole (xs := [2, 3]) U2.out rfl rfl)
              have HC := Lib.hid (plays_any w3 (some ⟨w2.heap.size + 1 + 1, 0, none⟩) 3 3 [[1], [], [2, 3]] hrr (by omega) D12 (i + 1) c12 (acts ++ [(3, [], ks)]) (RdAc.of_own (by rw [List.length_append, HA1.out]; rfl) G2.out G1.out) (by omega))
              clear hrr G1 G2 U1 U2 U3
              refine HC.out.mono ?_
              clear HC
              rintro en w4 ⟨rfl, hb4⟩
              have HBE := Lib.hid (HB3.out.trans (hb4.mono HB3.out.size))
              clear hb4 HB3
              go_wp2_with fail
              go_roundw
              case rel => exact ⟨B + 1 + i / 4 * 5, by omega, by first | go_num | (congr 1; omega), HBE⟩
              case measure => simp [intOf] <;> omega
        · have hd2 : decide ((B : Int) < (S : Int)) = false := by simp; omega
          go_wp2_with fail
          go_roundw
          case rel => exact ⟨n + 1, by omega, by go_num, HB⟩
          case measure => simp [intOf] <;> omega
    · obtain rfl : n = 6 := by omega
      have hd : decide (((6 : Nat) : Int) < 6) = false := by simp
      have HC := Lib.hid (app_nil (wr.alloc (.cells #[.int .u8 97] 5 (1, 2))) (some ⟨wr.heap.size, 0, none⟩) 1 1)
      have hx := below1 wr (.cells #[.int .u8 97] 5 (1, 2))
      go_wp2_with fail
      refine HC.out.mono ?_
      clear HC
      rintro en w1 ⟨rfl, hb1⟩
      have h1 := HB.out.trans ((hx.trans (hb1.mono hx.size)).mono HB.out.size)
      clear hx hb1 HB
      have HC := Lib.hid (sync_nil w1)
      go_wp2_with fail
      refine HC.out.mono ?_
      clear HC
      rintro en w2 ⟨rfl, hb1⟩
      have h2 := h1.trans (hb1.mono h1.size)
      clear hb1 h1
      have HC := Lib.hid (fail_nil (w2.alloc (.cells #[.bool true] 4)) (some ⟨w2.heap.size, 0, none⟩) 1 1)
      have hx := below1 w2 (.cells #[.bool true] 4)
      go_wp2_with fail
      refine HC.out.mono ?_
      clear HC
      rintro en w3 ⟨rfl, hb1⟩
      have h3 := h2.trans ((hx.trans (hb1.mono hx.size)).mono h2.size)
      clear hx hb1 h2
      have HC := Lib.hid (plays_any w3 none 0 0 [] (rows_nil _) (by omega) none 0 0 [] (acts_nil _) (by omega))
      go_wp2_with fail
      refine HC.out.mono ?_
      clear HC
      rintro en w4 ⟨rfl, hb1⟩
      have h4 := h3.trans (hb1.mono h3.size)
      clear hb1 h3
      have x1 := below1 w4 (.cells #[.int .u8 120] 5 (1, 2))
      have x2 := x1.trans ((below1 (w4.alloc (.cells #[.int .u8 120] 5 (1, 2))) (.cells #[.slice none 0 0, .bool false, .slice (some ⟨w4.heap.size, 0, none⟩) 1 1, .bool false, .slice none 0 0, .bool true] 52)).mono x1.size)
      have z1 : (w4.alloc (.cells #[.int .u8 120] 5 (1, 2))).heap.size = w4.heap.size + 1 := by simp
      have v2 := Whole.new (w4.alloc (.cells #[.int .u8 120] 5 (1, 2))) 52 #[.slice none 0 0, .bool false, .slice (some ⟨w4.heap.size, 0, none⟩) 1 1, .bool false, .slice none 0 0, .bool true]
      rw [z1] at v2
      have v1 : ((w4.alloc (.cells #[.int .u8 120] 5 (1, 2))).alloc (.cells #[.slice none 0 0, .bool false, .slice (some ⟨w4.heap.size, 0, none⟩) 1 1, .bool false, .slice none 0 0, .bool true] 52)).heap[w4.heap.size]? = some (.cells #[.int .u8 120] 5 (1, 2)) := ((below1 (w4.alloc (.cells #[.int .u8 120] 5 (1, 2))) _).block w4.heap.size (by rw [z1]; omega)).trans (heap_alloc_new w4 _)
      have HC := Lib.hid (odd_any _ (some ⟨w4.heap.size + 1, 0, none⟩) 3 3 [([], false), ([120], false), ([], true)] (three_parts v2 (rd_whole (xs := [120]) v1 rfl rfl)) (by omega) (by decide) 2 none 0 0 [] (rd_nil _ _) (Nat.le_refl _) (by omega) none 0 0 [] (rd_nil _ _) (Nat.le_refl _) (by omega))
      have h5 := h4.trans (x2.mono h4.size)
      clear x1 x2 z1 v1 v2 h4
      go_wp2_with fail
      refine HC.out.mono ?_
      clear HC
      rintro en w5 ⟨rfl, hb1⟩
      have h6 := h5.trans (hb1.mono h5.size)
      clear hb1 h5
      have HC := Lib.hid (keeps_any w5 none 0 0 [] (acts_nil _) (by omega) none 0 0 [] (rd_nil _ _) (Nat.le_refl _) none 0 0 [] (rd_nil _ _) (Nat.le_refl _))
      go_wp2_with fail
      refine HC.out.mono ?_
      clear HC
      rintro en w6 ⟨rfl, hb1⟩
      have h7 := h6.trans (hb1.mono h6.size)
      clear hb1 h6
      go_wp2_with fail
      refine (HWK.out w6).mono ?_
      rintro en w7 ⟨rfl, hb1⟩
      have h8 := h7.trans (hb1.mono h7.size)
      clear hb1 h7
      go_wp2_with fail
      go_ret
      exact ⟨rfl, h8⟩
end Go.Proofs.Ytankhjchdnfpfaa
