/-
  Records: the parts of each kind: the map that kinds makes.
-/
import Derived.Test.YtmobgamlednlhaaProg
import Derived.Test.YtmobgamlednlhaaAppend
import Derived.MapKept
import Derived.WalkKit
namespace Go.Proofs.Ytmobgamlednlhaa
open Go.RowKit Go.MapKept
/-- The parts of the kinds, as numbers. -/
def Rec.kinds : List (Nat × List Nat) := [(1, [0, 1]), (2, [0, 1]), (3, [0]), (4, [0, 2, 4, 5]), (5, [2, 1]), (6, [2]), (7, []), (8, [3]), (9, [6]), (10, [6]), (11, [6, 7])]
def smalls (ps : List Nat) : List Value := ps.map fun p => .int .u8 (p : Nat)
/-- A row of parts in memory from block base on. -/
def PartRow (w : World) (base : Nat) (v : Value) (ps : List Nat) : Prop := ∃ b, v = .slice (some ⟨b, 0, none⟩) ps.length ps.length ∧ base ≤ b ∧ Whole w b 94 (smalls ps).toArray
theorem PartRow.keep {w w' : World} {base : Nat} {v : Value} {ps : List Nat} (h : PartRow w base v ps) (hk : ∀ b : Nat, (∃ cs t k, w.heap[b]? = some (Obj.cells cs t k)) → w'.heap[b]? = w.heap[b]?) : PartRow w' base v ps := by
  obtain ⟨b, h1, h2, h3⟩ := h
  exact ⟨b, h1, h2, (hk b ⟨_, _, _, h3⟩).trans h3⟩
theorem PartRow.ext {w w' : World} {base : Nat} {v : Value} {ps : List Nat} (h : PartRow w base v ps) (hb : Below w.heap.size w w') : PartRow w' base v ps :=
  h.keep fun b ⟨_, _, _, e⟩ => hb.block b (Array.getElem?_eq_some_iff.1 e).1
theorem PartRow.new (w : World) (base : Nat) (hb : base ≤ w.heap.size) (ps : List Nat) : PartRow (w.alloc (.cells (smalls ps).toArray 94)) base (.slice (some ⟨w.heap.size, 0, none⟩) ps.length ps.length) ps := ⟨_, rfl, hb, Whole.new _ _ _⟩
/-- A map from kinds to rows of parts. -/
def KMap (w : World) (base g : Nat) (l : List (Nat × List Nat)) : Prop :=
  base ≤ g ∧ ∃ es : Array MapEntry, w.heap[g]? = some (.map es l.length) ∧ es.size = l.length ∧ ∀ i (hi : i < l.length), ∃ e, es[i]? = some e ∧ e.key = .int .u8 (l[i].1 : Nat) ∧ PartRow w base e.val l[i].2
theorem KMap.ext {w w' : World} {base g : Nat} {l : List (Nat × List Nat)} (h : KMap w base g l) (hb : Below w.heap.size w w') : KMap w' base g l := by
  obtain ⟨h0, es, h1, h2, h3⟩ := h
  refine ⟨h0, es, (hb.block g (Array.getElem?_eq_some_iff.1 h1).1).trans h1, h2, fun i hi => ?_⟩
  obtain ⟨e, e1, e2, e3⟩ := h3 i hi
  exact ⟨e, e1, e2, e3.ext hb⟩
theorem KMap.new (w : World) : KMap (w.alloc (.map #[] 0)) w.heap.size w.heap.size [] := ⟨Nat.le_refl _, #[], heap_alloc_new w _, rfl, fun i hi => absurd hi (by simp)⟩
theorem KMap.keys {w : World} {base : Nat} {l : List (Nat × List Nat)} {es : Array MapEntry} (h3 : ∀ i (hi : i < l.length), ∃ e, es[i]? = some e ∧ e.key = .int .u8 (l[i].1 : Nat) ∧ PartRow w base e.val l[i].2) (h2 : es.size = l.length) : ∀ x ∈ es.toList, ∃ i, ∃ hi : i < l.length, x.key = .int .u8 (l[i].1 : Nat) ∧ PartRow w base x.val l[i].2 := by
  intro x hx
  obtain ⟨i, hi, rfl⟩ := List.mem_iff_getElem.1 hx
  have hil : i < l.length := by rw [← h2]; simpa using hi
  obtain ⟨e, e1, e2, e3⟩ := h3 i hil
  have : es[i]? = some es.toList[i] := by simp
  rw [this] at e1
  injection e1 with e1
  subst e1
  exact ⟨i, hil, e2, e3⟩
section
variable {P : Program} {w : World}
/-- A key more. -/
theorem run_insert_new {t kt et : TypeId} (ht : P.underlying t = some (.map kt et)) (hd : P.underlying kt = some (.int .u8)) {base g : Nat} {l : List (Nat × List Nat)} (h : KMap w base g l) {kk : Nat} {v : Value} {ps : List Nat} (hp : PartRow w base v ps) (hnew : ∀ p ∈ l, p.1 ≠ kk) :
    ∃ w', (Instr.mapUpdate t (.map (some g)) (.int .u8 (kk : Nat)) v).run P w = .ok () w' ∧ KMap w' base g (l ++ [(kk, ps)]) ∧ Below base w w' ∧ w'.heap.size = w.heap.size := by
  obtain ⟨h0, es, h1, h2, h3⟩ := h
  have hks : ∀ x ∈ es.toList, IsKey (.int .u8) x.key := fun x hx => by
    obtain ⟨i, _, e, _⟩ := KMap.keys h3 h2 x hx
    rw [e]
    rfl
  have hk : IsKey (.int .u8) (.int .u8 (kk : Nat)) := rfl
  have hfind : Instr.findNow (.int .u8) (.int .u8 (kk : Nat)) es.toList 0 = some none := by
    rcases findNow_spec hk es.toList 0 hks with ⟨e1, _⟩ | ⟨j, e, _, e2, e3⟩
    · exact e1
    · exfalso
      obtain ⟨i, hi, e4, _⟩ := KMap.keys h3 h2 e (List.mem_of_getElem? e2)
      rw [e3] at e4
      injection e4 with _ e4
      exact hnew _ (List.getElem_mem hi) (by omega)
  refine ⟨{ w with heap := w.heap.setIfInBounds g (.map (es.push { key := .int .u8 (kk : Nat), val := v, born := l.length }) (l.length + 1)) }, ?_, ⟨h0, es.push { key := .int .u8 (kk : Nat), val := v, born := l.length }, ?_, by simp [h2], fun i hi => ?_⟩, ⟨rfl, rfl, rfl, by simp, fun k hkb => (heap_set h1).2 k (by omega)⟩, by simp⟩
  · simp [Instr.mapUpdate, run_underlying ht, MapKept.run_getObj_map h1, MapKept.run_checkKey hd hk, MapKept.run_findKey hd hfind, MapKept.run_setObj_map _ h1, Result.andThen]
  · rw [List.length_append, List.length_singleton]
    exact (heap_set h1).1
  · have keep : ∀ b : Nat, (∃ cs t k, w.heap[b]? = some (Obj.cells cs t k)) → (w.heap.setIfInBounds g (.map (es.push { key := .int .u8 (kk : Nat), val := v, born := l.length }) (l.length + 1)))[b]? = w.heap[b]? := fun b ⟨cs, t, k, e⟩ => (heap_set h1).2 b (fun e2 => by
      subst e2
      rw [h1] at e
      cases e)
    rw [List.length_append, List.length_singleton] at hi
    by_cases hlt : i < l.length
    · obtain ⟨e, e1, e2, e3⟩ := h3 i hlt
      rw [List.getElem_append_left hlt]
      refine ⟨e, ?_, e2, e3.keep keep⟩
      rw [Array.getElem?_push, if_neg (by omega)]
      exact e1
    · obtain rfl : i = l.length := by omega
      rw [List.getElem_concat_length rfl]
      refine ⟨{ key := .int .u8 (kk : Nat), val := v, born := l.length }, ?_, rfl, hp.keep keep⟩
      rw [Array.getElem?_push, if_pos h2.symm]
/-- A key looked up. -/
theorem run_lookup_key {t kt et : TypeId} (ht : P.underlying t = some (.map kt et)) (hd : P.underlying kt = some (.int .u8)) {z : Value} (hz : (zeroValue et).run P w = .ok z w) {base g : Nat} {l : List (Nat × List Nat)} (h : KMap w base g l) (kk : Nat) :
    ((∀ p ∈ l, p.1 ≠ kk) ∧ (Instr.lookup t (.map (some g)) (.int .u8 (kk : Nat)) true).run P w = .ok (.tuple #[z, .bool false]) w) ∨
    ∃ p ∈ l, p.1 = kk ∧ ∃ v, PartRow w base v p.2 ∧ (Instr.lookup t (.map (some g)) (.int .u8 (kk : Nat)) true).run P w = .ok (.tuple #[v, .bool true]) w ∧ (Instr.lookup t (.map (some g)) (.int .u8 (kk : Nat)) false).run P w = .ok v w := by
  obtain ⟨h0, es, h1, h2, h3⟩ := h
  have hks : ∀ x ∈ es.toList, IsKey (.int .u8) x.key := fun x hx => by
    obtain ⟨i, _, e, _⟩ := KMap.keys h3 h2 x hx
    rw [e]
    rfl
  have hk : IsKey (.int .u8) (.int .u8 (kk : Nat)) := rfl
  rcases findNow_spec hk es.toList 0 hks with ⟨e1, e2⟩ | ⟨j, e, e1, e2, e3⟩
  · left
    refine ⟨fun p hp hpk => ?_, by simp [Instr.lookup, run_underlying ht, MapKept.run_getObj_map h1, MapKept.run_checkKey hd hk, MapKept.run_findKey hd e1, hz, Result.andThen]⟩
    obtain ⟨i, hi, rfl⟩ := List.mem_iff_getElem.1 hp
    obtain ⟨e, f1, f2, _⟩ := h3 i hi
    refine e2 e ?_ (by rw [f2, hpk])
    rw [← Array.getElem?_toList] at f1
    exact List.mem_of_getElem? f1
  · right
    obtain ⟨i, hi, f1, f2⟩ := KMap.keys h3 h2 e (List.mem_of_getElem? e2)
    rw [e3] at f1
    injection f1 with _ f1
    exact ⟨l[i], List.getElem_mem hi, by omega, e.val, f2, by simp [Instr.lookup, run_underlying ht, MapKept.run_getObj_map h1, MapKept.run_checkKey hd hk, MapKept.run_findKey hd e1, Result.andThen], by simp [Instr.lookup, run_underlying ht, MapKept.run_getObj_map h1, MapKept.run_checkKey hd hk, MapKept.run_findKey hd e1, Result.andThen]⟩
theorem wpList_insert {ops : Array Oper} {rest : List Oper} {o : Oper} {a : Act} {Q : Exit → Act → World → Prop} (hgd : o.guard = none) (hds : o.dst = none) (t : TypeId) (m k x : Operand) (ho : o.op = .insert t m k x) {kt et : TypeId} (ht : P.underlying t = some (.map kt et)) (hd : P.underlying kt = some (.int .u8)) {base g : Nat} {l : List (Nat × List Nat)} (h : KMap w base g l) (kk : Nat) {v : Value} {ps : List Nat}
    (hm : a.eval m = .map (some g)) (hk : a.eval k = .int .u8 (kk : Nat)) (hx : a.eval x = v) (hp : PartRow w base v ps) (hnew : ∀ p ∈ l, p.1 ≠ kk)
    (hn : ∀ w', KMap w' base g (l ++ [(kk, ps)]) → Below base w w' → wpList P ops Q rest a w') : wpList P ops Q (o :: rest) a w :=
  wpList_plain hgd fun K hK => by
    obtain ⟨w', hrun, h1, h2, _⟩ := run_insert_new (P := P) (t := t) ht hd h hp hnew
    unfold Oper.wp execOp
    simp only [ho, hm, hk, hx, Sem.run_bind, Sem.run_pure, Result.andThen_ok, hrun]
    have e : a.put o.dst undef = a := by rw [hds]; rfl
    simp only [Oper.upon, e]
    exact hK _ _ (hn w' h1 h2)
end
theorem belowK (w : World) (o : Obj) : Below w.heap.size w (w.alloc o) := (Below.refl _ _).alloc (Nat.le_refl _) _
set_option maxRecDepth 100000 in
set_option maxHeartbeats 8000000 in
theorem kinds_any (w : World) : Calls Try.prog 31 #[] w fun en w' => ∃ g, en = .returned (.map (some g)) ∧ KMap w' w.heap.size g Rec.kinds ∧ Below w.heap.size w w' := by
  have hmm := @Go.RowKit.run_makeMap Try.prog
  have HM0 := Lib.hid (KMap.new w)
  have HB0 := Lib.hid (belowK w (.map #[] 0))
  have hpr := PartRow.new (w.alloc (.map #[] 0)) w.heap.size HB0.out.size [0, 1]
  have hz : (w.alloc (.map #[] 0)).heap.size = w.heap.size + 1 := by simp
  rw [hz] at hpr
  have HPR := Lib.hid hpr
  clear hpr hz
  go_enter Try.func31, Try.ntmps31
  go_wp2_with first
    | (refine wpList_insert rfl rfl 61 (.tmp 1) (.const (.int .u8 1)) (.tmp 2) rfl Try.underlying61 Try.underlying5 (l := []) (ps := [0, 1]) (HM0.out.ext (belowK _ _)) 1 rfl rfl rfl HPR.out (by decide) ?_; intro w0 h0 b0; have HM1 := Lib.hid h0; have HB1 := Lib.hid ((HB0.out.trans ((belowK _ _).mono HB0.out.size)).trans b0); clear h0 b0)
    | (refine wpList_insert rfl rfl 61 (.tmp 1) (.const (.int .u8 2)) (.tmp 3) rfl Try.underlying61 Try.underlying5 (l := [(1, [0, 1])]) (ps := [0, 1]) (HM1.out.ext (belowK _ _)) 2 rfl rfl rfl (PartRow.new _ _ (HB1.out.size) [0, 1]) (by decide) ?_; intro w1 h1 b1; have HM2 := Lib.hid h1; have HB2 := Lib.hid ((HB1.out.trans ((belowK _ _).mono HB1.out.size)).trans b1); clear h1 b1)
    | (refine wpList_insert rfl rfl 61 (.tmp 1) (.const (.int .u8 3)) (.tmp 4) rfl Try.underlying61 Try.underlying5 (l := [(1, [0, 1]), (2, [0, 1])]) (ps := [0]) (HM2.out.ext (belowK _ _)) 3 rfl rfl rfl (PartRow.new _ _ (HB2.out.size) [0]) (by decide) ?_; intro w2 h2 b2; have HM3 := Lib.hid h2; have HB3 := Lib.hid ((HB2.out.trans ((belowK _ _).mono HB2.out.size)).trans b2); clear h2 b2)
    | (refine wpList_insert rfl rfl 61 (.tmp 1) (.const (.int .u8 4)) (.tmp 5) rfl Try.underlying61 Try.underlying5 (l := [(1, [0, 1]), (2, [0, 1]), (3, [0])]) (ps := [0, 2, 4, 5]) (HM3.out.ext (belowK _ _)) 4 rfl rfl rfl (PartRow.new _ _ (HB3.out.size) [0, 2, 4, 5]) (by decide) ?_; intro w3 h3 b3; have HM4 := Lib.hid h3; have HB4 := Lib.hid ((HB3.out.trans ((belowK _ _).mono HB3.out.size)).trans b3); clear h3 b3)
    | (refine wpList_insert rfl rfl 61 (.tmp 1) (.const (.int .u8 5)) (.tmp 6) rfl Try.underlying61 Try.underlying5 (l := [(1, [0, 1]), (2, [0, 1]), (3, [0]), (4, [0, 2, 4, 5])]) (ps := [2, 1]) (HM4.out.ext (belowK _ _)) 5 rfl rfl rfl (PartRow.new _ _ (HB4.out.size) [2, 1]) (by decide) ?_; intro w4 h4 b4; have HM5 := Lib.hid h4; have HB5 := Lib.hid ((HB4.out.trans ((belowK _ _).mono HB4.out.size)).trans b4); clear h4 b4)
    | (refine wpList_insert rfl rfl 61 (.tmp 1) (.const (.int .u8 6)) (.tmp 7) rfl Try.underlying61 Try.underlying5 (l := [(1, [0, 1]), (2, [0, 1]), (3, [0]), (4, [0, 2, 4, 5]), (5, [2, 1])]) (ps := [2]) (HM5.out.ext (belowK _ _)) 6 rfl rfl rfl (PartRow.new _ _ (HB5.out.size) [2]) (by decide) ?_; intro w5 h5 b5; have HM6 := Lib.hid h5; have HB6 := Lib.hid ((HB5.out.trans ((belowK _ _).mono HB5.out.size)).trans b5); clear h5 b5)
    | (refine wpList_insert rfl rfl 61 (.tmp 1) (.const (.int .u8 7)) (.tmp 8) rfl Try.underlying61 Try.underlying5 (l := [(1, [0, 1]), (2, [0, 1]), (3, [0]), (4, [0, 2, 4, 5]), (5, [2, 1]), (6, [2])]) (ps := []) (HM6.out.ext (belowK _ _)) 7 rfl rfl rfl (PartRow.new _ _ (HB6.out.size) []) (by decide) ?_; intro w6 h6 b6; have HM7 := Lib.hid h6; have HB7 := Lib.hid ((HB6.out.trans ((belowK _ _).mono HB6.out.size)).trans b6); clear h6 b6)
    | (refine wpList_insert rfl rfl 61 (.tmp 1) (.const (.int .u8 8)) (.tmp 9) rfl Try.underlying61 Try.underlying5 (l := [(1, [0, 1]), (2, [0, 1]), (3, [0]), (4, [0, 2, 4, 5]), (5, [2, 1]), (6, [2]), (7, [])]) (ps := [3]) (HM7.out.ext (belowK _ _)) 8 rfl rfl rfl (PartRow.new _ _ (HB7.out.size) [3]) (by decide) ?_; intro w7 h7 b7; have HM8 := Lib.hid h7; have HB8 := Lib.hid ((HB7.out.trans ((belowK _ _).mono HB7.out.size)).trans b7); clear h7 b7)
    | (refine wpList_insert rfl rfl 61 (.tmp 1) (.const (.int .u8 9)) (.tmp 10) rfl Try.underlying61 Try.underlying5 (l := [(1, [0, 1]), (2, [0, 1]), (3, [0]), (4, [0, 2, 4, 5]), (5, [2, 1]), (6, [2]), (7, []), (8, [3])]) (ps := [6]) (HM8.out.ext (belowK _ _)) 9 rfl rfl rfl (PartRow.new _ _ (HB8.out.size) [6]) (by decide) ?_; intro w8 h8 b8; have HM9 := Lib.hid h8; have HB9 := Lib.hid ((HB8.out.trans ((belowK _ _).mono HB8.out.size)).trans b8); clear h8 b8)
    | (refine wpList_insert rfl rfl 61 (.tmp 1) (.const (.int .u8 10)) (.tmp 11) rfl Try.underlying61 Try.underlying5 (l := [(1, [0, 1]), (2, [0, 1]), (3, [0]), (4, [0, 2, 4, 5]), (5, [2, 1]), (6, [2]), (7, []), (8, [3]), (9, [6])]) (ps := [6]) (HM9.out.ext (belowK _ _)) 10 rfl rfl rfl (PartRow.new _ _ (HB9.out.size) [6]) (by decide) ?_; intro w9 h9 b9; have HM10 := Lib.hid h9; have HB10 := Lib.hid ((HB9.out.trans ((belowK _ _).mono HB9.out.size)).trans b9); clear h9 b9)
    | (refine wpList_insert rfl rfl 61 (.tmp 1) (.const (.int .u8 11)) (.tmp 12) rfl Try.underlying61 Try.underlying5 (l := [(1, [0, 1]), (2, [0, 1]), (3, [0]), (4, [0, 2, 4, 5]), (5, [2, 1]), (6, [2]), (7, []), (8, [3]), (9, [6]), (10, [6])]) (ps := [6, 7]) (HM10.out.ext (belowK _ _)) 11 rfl rfl rfl (PartRow.new _ _ (HB10.out.size) [6, 7]) (by decide) ?_; intro w10 h10 b10; have HM11 := Lib.hid h10; have HB11 := Lib.hid ((HB10.out.trans ((belowK _ _).mono HB10.out.size)).trans b10); clear h10 b10)
  go_ret
  exact ⟨_, rfl, HM11.out, HB11.out⟩
end Go.Proofs.Ytmobgamlednlhaa
