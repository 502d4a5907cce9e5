/-
  Records: Kinds, Plain, Leaf, Ref, With, Eq, Meth in one text.
-/
import Derived.Test.YtmobgamlednlhaaProg
import Derived.Test.YtmobgamlednlhaaAppend
import Derived.MapKept
import Derived.WalkKit
import Derived.Test.YtmobgamlednlhaaVarPlain
import Derived.Laws.StructEq
import Derived.Lib.SlicesS
namespace Go.Proofs.Ytmobgamlednlhaa
open Go.RowKit Go.MapKept
/-- The parts of the kinds, as numbers. -/
def Rec.kinds : List (Nat × List Nat) := [(1, [0, 1]), (2, [0, 1]), (3, [0]), (4, [0, 2, 4, 5]), (5, [2, 1]), (6, [2]), (7, []), (8, [3]), (9, [6]), (10, [6]), (11, [6, 7])]
def smalls (ps : List Nat) : List Value := ps.map fun p => .int .u8 (p : Nat)
/-- A row of parts in memory from block base on. -/
def PartRow (w : World) (base : Nat) (v : Value) (ps : List Nat) : Prop := ∃ b, v = .slice (some ⟨b, 0, none⟩) ps.length ps.length ∧ base ≤ b ∧ Whole w b 94 (smalls ps).toArray
theorem PartRow.keep {w w' : World} {base : Nat} {v : Value} {ps : List Nat} (h : PartRow w base v ps) (hk : ∀ b : Nat, (∃ cs t k, w.heap[b]? = some (Obj.cells cs t k)) → w'.heap[b]? = w.heap[b]?) : PartRow w' base v ps := by
  obtain ⟨b, h1, h2, h3⟩ := h
  exact ⟨b, h1, h2, (hk b ⟨_, _, _, h3⟩).trans h3⟩
theorem PartRow.ext {w w' : World} {base : Nat} {v : Value} {ps : List Nat} (h : PartRow w base v ps) (hb : Below w.heap.size w w') : PartRow w' base v ps :=
  h.keep fun b ⟨_, _, _, e⟩ => hb.block b (Array.getElem?_eq_some_iff.1 e).1
theorem PartRow.new (w : World) (base : Nat) (hb : base ≤ w.heap.size) (ps : List Nat) : PartRow (w.alloc (.cells (smalls ps).toArray 94)) base (.slice (some ⟨w.heap.size, 0, none⟩) ps.length ps.length) ps := ⟨_, rfl, hb, Whole.new _ _ _⟩
/-- A map from kinds to rows of parts. -/
def KMap (w : World) (base g : Nat) (l : List (Nat × List Nat)) : Prop :=
  base ≤ g ∧ ∃ es : Array MapEntry, w.heap[g]? = some (.map es l.length) ∧ es.size = l.length ∧ ∀ i (hi : i < l.length), ∃ e, es[i]? = some e ∧ e.key = .int .u8 (l[i].1 : Nat) ∧ PartRow w base e.val l[i].2
theorem KMap.ext {w w' : World} {base g : Nat} {l : List (Nat × List Nat)} (h : KMap w base g l) (hb : Below w.heap.size w w') : KMap w' base g l := by
  obtain ⟨h0, es, h1, h2, h3⟩ := h
  refine ⟨h0, es, (hb.block g (Array.getElem?_eq_some_iff.1 h1).1).trans h1, h2, fun i hi => ?_⟩
  obtain ⟨e, e1, e2, e3⟩ := h3 i hi
  exact ⟨e, e1, e2, e3.ext hb⟩
theorem KMap.new (w : World) : KMap (w.alloc (.map #[] 0)) w.heap.size w.heap.size [] := ⟨Nat.le_refl _, #[], heap_alloc_new w _, rfl, fun i hi => absurd hi (by simp)⟩
theorem KMap.keys {w : World} {base : Nat} {l : List (Nat × List Nat)} {es : Array MapEntry} (h3 : ∀ i (hi : i < l.length), ∃ e, es[i]? = some e ∧ e.key = .int .u8 (l[i].1 : Nat) ∧ PartRow w base e.val l[i].2) (h2 : es.size = l.length) : ∀ x ∈ es.toList, ∃ i, ∃ hi : i < l.length, x.key = .int .u8 (l[i].1 : Nat) ∧ PartRow w base x.val l[i].2 := by
  intro x hx
  obtain ⟨i, hi, rfl⟩ := List.mem_iff_getElem.1 hx
  have hil : i < l.length := by rw [← h2]; simpa using hi
  obtain ⟨e, e1, e2, e3⟩ := h3 i hil
  have : es[i]? = some es.toList[i] := by simp
  rw [this] at e1
  injection e1 with e1
  subst e1
  exact ⟨i, hil, e2, e3⟩
section
variable {P : Program} {w : World}
/-- A key more. -/
theorem run_insert_new {t kt et : TypeId} (ht : P.underlying t = some (.map kt et)) (hd : P.underlying kt = some (.int .u8)) {base g : Nat} {l : List (Nat × List Nat)} (h : KMap w base g l) {kk : Nat} {v : Value} {ps : List Nat} (hp : PartRow w base v ps) (hnew : ∀ p ∈ l, p.1 ≠ kk) :
    ∃ w', (Instr.mapUpdate t (.map (some g)) (.int .u8 (kk : Nat)) v).run P w = .ok () w' ∧ KMap w' base g (l ++ [(kk, ps)]) ∧ Below base w w' ∧ w'.heap.size = w.heap.size := by
  obtain ⟨h0, es, h1, h2, h3⟩ := h
  have hks : ∀ x ∈ es.toList, IsKey (.int .u8) x.key := fun x hx => by
    obtain ⟨i, _, e, _⟩ := KMap.keys h3 h2 x hx
    rw [e]
    rfl
  have hk : IsKey (.int .u8) (.int .u8 (kk : Nat)) := rfl
  have hfind : Instr.findNow (.int .u8) (.int .u8 (kk : Nat)) es.toList 0 = some none := by
    rcases findNow_spec hk es.toList 0 hks with ⟨e1, _⟩ | ⟨j, e, _, e2, e3⟩
    · exact e1
    · exfalso
      obtain ⟨i, hi, e4, _⟩ := KMap.keys h3 h2 e (List.mem_of_getElem? e2)
      rw [e3] at e4
      injection e4 with _ e4
      exact hnew _ (List.getElem_mem hi) (by omega)
  refine ⟨{ w with heap := w.heap.setIfInBounds g (.map (es.push { key := .int .u8 (kk : Nat), val := v, born := l.length }) (l.length + 1)) }, ?_, ⟨h0, es.push { key := .int .u8 (kk : Nat), val := v, born := l.length }, ?_, by simp [h2], fun i hi => ?_⟩, ⟨rfl, rfl, rfl, by simp, fun k hkb => (heap_set h1).2 k (by omega)⟩, by simp⟩
  · simp [Instr.mapUpdate, run_underlying ht, MapKept.run_getObj_map h1, MapKept.run_checkKey hd hk, MapKept.run_findKey hd hfind, MapKept.run_setObj_map _ h1, Result.andThen]
  · rw [List.length_append, List.length_singleton]
    exact (heap_set h1).1
  · have keep : ∀ b : Nat, (∃ cs t k, w.heap[b]? = some (Obj.cells cs t k)) → (w.heap.setIfInBounds g (.map (es.push { key := .int .u8 (kk : Nat), val := v, born := l.length }) (l.length + 1)))[b]? = w.heap[b]? := fun b ⟨cs, t, k, e⟩ => (heap_set h1).2 b (fun e2 => by
      subst e2
      rw [h1] at e
      cases e)
    rw [List.length_append, List.length_singleton] at hi
    by_cases hlt : i < l.length
    · obtain ⟨e, e1, e2, e3⟩ := h3 i hlt
      rw [List.getElem_append_left hlt]
      refine ⟨e, ?_, e2, e3.keep keep⟩
      rw [Array.getElem?_push, if_neg (by omega)]
      exact e1
    · obtain rfl : i = l.length := by omega
      rw [List.getElem_concat_length rfl]
      refine ⟨{ key := .int .u8 (kk : Nat), val := v, born := l.length }, ?_, rfl, hp.keep keep⟩
      rw [Array.getElem?_push, if_pos h2.symm]
/-- A key looked up. -/
theorem run_lookup_key {t kt et : TypeId} (ht : P.underlying t = some (.map kt et)) (hd : P.underlying kt = some (.int .u8)) {z : Value} (hz : (zeroValue et).run P w = .ok z w) {base g : Nat} {l : List (Nat × List Nat)} (h : KMap w base g l) (kk : Nat) :
    ((∀ p ∈ l, p.1 ≠ kk) ∧ (Instr.lookup t (.map (some g)) (.int .u8 (kk : Nat)) true).run P w = .ok (.tuple #[z, .bool false]) w) ∨
    ∃ p ∈ l, p.1 = kk ∧ ∃ v, PartRow w base v p.2 ∧ (Instr.lookup t (.map (some g)) (.int .u8 (kk : Nat)) true).run P w = .ok (.tuple #[v, .bool true]) w ∧ (Instr.lookup t (.map (some g)) (.int .u8 (kk : Nat)) false).run P w = .ok v w := by
  obtain ⟨h0, es, h1, h2, h3⟩ := h
  have hks : ∀ x ∈ es.toList, IsKey (.int .u8) x.key := fun x hx => by
    obtain ⟨i, _, e, _⟩ := KMap.keys h3 h2 x hx
    rw [e]
    rfl
  have hk : IsKey (.int .u8) (.int .u8 (kk : Nat)) := rfl
  rcases findNow_spec hk es.toList 0 hks with ⟨e1, e2⟩ | ⟨j, e, e1, e2, e3⟩
  · left
    refine ⟨fun p hp hpk => ?_, by simp [Instr.lookup, run_underlying ht, MapKept.run_getObj_map h1, MapKept.run_checkKey hd hk, MapKept.run_findKey hd e1, hz, Result.andThen]⟩
    obtain ⟨i, hi, rfl⟩ := List.mem_iff_getElem.1 hp
    obtain ⟨e, f1, f2, _⟩ := h3 i hi
    refine e2 e ?_ (by rw [f2, hpk])
    rw [← Array.getElem?_toList] at f1
    exact List.mem_of_getElem? f1
  · right
    obtain ⟨i, hi, f1, f2⟩ := KMap.keys h3 h2 e (List.mem_of_getElem? e2)
    rw [e3] at f1
    injection f1 with _ f1
    exact ⟨l[i], List.getElem_mem hi, by omega, e.val, f2, by simp [Instr.lookup, run_underlying ht, MapKept.run_getObj_map h1, MapKept.run_checkKey hd hk, MapKept.run_findKey hd e1, Result.andThen], by simp [Instr.lookup, run_underlying ht, MapKept.run_getObj_map h1, MapKept.run_checkKey hd hk, MapKept.run_findKey hd e1, Result.andThen]⟩
theorem wpList_insert {ops : Array Oper} {rest : List Oper} {o : Oper} {a : Act} {Q : Exit → Act → World → Prop} (hgd : o.guard = none) (hds : o.dst = none) (t : TypeId) (m k x : Operand) (ho : o.op = .insert t m k x) {kt et : TypeId} (ht : P.underlying t = some (.map kt et)) (hd : P.underlying kt = some (.int .u8)) {base g : Nat} {l : List (Nat × List Nat)} (h : KMap w base g l) (kk : Nat) {v : Value} {ps : List Nat}
    (hm : a.eval m = .map (some g)) (hk : a.eval k = .int .u8 (kk : Nat)) (hx : a.eval x = v) (hp : PartRow w base v ps) (hnew : ∀ p ∈ l, p.1 ≠ kk)
    (hn : ∀ w', KMap w' base g (l ++ [(kk, ps)]) → Below base w w' → wpList P ops Q rest a w') : wpList P ops Q (o :: rest) a w :=
  wpList_plain hgd fun K hK => by
    obtain ⟨w', hrun, h1, h2, _⟩ := run_insert_new (P := P) (t := t) ht hd h hp hnew
    unfold Oper.wp execOp
    simp only [ho, hm, hk, hx, Sem.run_bind, Sem.run_pure, Result.andThen_ok, hrun]
    have e : a.put o.dst undef = a := by rw [hds]; rfl
    simp only [Oper.upon, e]
    exact hK _ _ (hn w' h1 h2)
end
theorem belowK (w : World) (o : Obj) : Below w.heap.size w (w.alloc o) := (Below.refl _ _).alloc (Nat.le_refl _) _
set_option maxRecDepth 100000 in
set_option maxHeartbeats 8000000 in
theorem kinds_any (w : World) : Calls Try.prog 31 #[] w fun en w' => ∃ g, en = .returned (.map (some g)) ∧ KMap w' w.heap.size g Rec.kinds ∧ Below w.heap.size w w' := by
  have hmm := @Go.RowKit.run_makeMap Try.prog
  have HM0 := Lib.hid (KMap.new w)
  have HB0 := Lib.hid (belowK w (.map #[] 0))
  have hpr := PartRow.new (w.alloc (.map #[] 0)) w.heap.size HB0.out.size [0, 1]
  have hz : (w.alloc (.map #[] 0)).heap.size = w.heap.size + 1 := by simp
  rw [hz] at hpr
  have HPR := Lib.hid hpr
  clear hpr hz
  go_enter Try.func31, Try.ntmps31
  go_wp2_with first
    | (refine wpList_insert rfl rfl 61 (.tmp 1) (.const (.int .u8 1)) (.tmp 2) rfl Try.underlying61 Try.underlying5 (l := []) (ps := [0, 1]) (HM0.out.ext (belowK _ _)) 1 rfl rfl rfl HPR.out (by decide) ?_; intro w0 h0 b0; have HM1 := Lib.hid h0; have HB1 := Lib.hid ((HB0.out.trans ((belowK _ _).mono HB0.out.size)).trans b0); clear h0 b0)
    | (refine wpList_insert rfl rfl 61 (.tmp 1) (.const (.int .u8 2)) (.tmp 3) rfl Try.underlying61 Try.underlying5 (l := [(1, [0, 1])]) (ps := [0, 1]) (HM1.out.ext (belowK _ _)) 2 rfl rfl rfl (PartRow.new _ _ (HB1.out.size) [0, 1]) (by decide) ?_; intro w1 h1 b1; have HM2 := Lib.hid h1; have HB2 := Lib.hid ((HB1.out.trans ((belowK _ _).mono HB1.out.size)).trans b1); clear h1 b1)
    | (refine wpList_insert rfl rfl 61 (.tmp 1) (.const (.int .u8 3)) (.tmp 4) rfl Try.underlying61 Try.underlying5 (l := [(1, [0, 1]), (2, [0, 1])]) (ps := [0]) (HM2.out.ext (belowK _ _)) 3 rfl rfl rfl (PartRow.new _ _ (HB2.out.size) [0]) (by decide) ?_; intro w2 h2 b2; have HM3 := Lib.hid h2; have HB3 := Lib.hid ((HB2.out.trans ((belowK _ _).mono HB2.out.size)).trans b2); clear h2 b2)
    | (refine wpList_insert rfl rfl 61 (.tmp 1) (.const (.int .u8 4)) (.tmp 5) rfl Try.underlying61 Try.underlying5 (l := [(1, [0, 1]), (2, [0, 1]), (3, [0])]) (ps := [0, 2, 4, 5]) (HM3.out.ext (belowK _ _)) 4 rfl rfl rfl (PartRow.new _ _ (HB3.out.size) [0, 2, 4, 5]) (by decide) ?_; intro w3 h3 b3; have HM4 := Lib.hid h3; have HB4 := Lib.hid ((HB3.out.trans ((belowK _ _).mono HB3.out.size)).trans b3); clear h3 b3)
    | (refine wpList_insert rfl rfl 61 (.tmp 1) (.const (.int .u8 5)) (.tmp 6) rfl Try.underlying61 Try.underlying5 (l := [(1, [0, 1]), (2, [0, 1]), (3, [0]), (4, [0, 2, 4, 5])]) (ps := [2, 1]) (HM4.out.ext (belowK _ _)) 5 rfl rfl rfl (PartRow.new _ _ (HB4.out.size) [2, 1]) (by decide) ?_; intro w4 h4 b4; have HM5 := Lib.hid h4; have HB5 := Lib.hid ((HB4.out.trans ((belowK _ _).mono HB4.out.size)).trans b4); clear h4 b4)
    | (refine wpList_insert rfl rfl 61 (.tmp 1) (.const (.int .u8 6)) (.tmp 7) rfl Try.underlying61 Try.underlying5 (l := [(1, [0, 1]), (2, [0, 1]), (3, [0]), (4, [0, 2, 4, 5]), (5, [2, 1])]) (ps := [2]) (HM5.out.ext (belowK _ _)) 6 rfl rfl rfl (PartRow.new _ _ (HB5.out.size) [2]) (by decide) ?_; intro w5 h5 b5; have HM6 := Lib.hid h5; have HB6 := Lib.hid ((HB5.out.trans ((belowK _ _).mono HB5.out.size)).trans b5); clear h5 b5)
    | (refine wpList_insert rfl rfl 61 (.tmp 1) (.const (.int .u8 7)) (.tmp 8) rfl Try.underlying61 Try.underlying5 (l := [(1, [0, 1]), (2, [0, 1]), (3, [0]), (4, [0, 2, 4, 5]), (5, [2, 1]), (6, [2])]) (ps := []) (HM6.out.ext (belowK _ _)) 7 rfl rfl rfl (PartRow.new _ _ (HB6.out.size) []) (by decide) ?_; intro w6 h6 b6; have HM7 := Lib.hid h6; have HB7 := Lib.hid ((HB6.out.trans ((belowK _ _).mono HB6.out.size)).trans b6); clear h6 b6)
    | (refine wpList_insert rfl rfl 61 (.tmp 1) (.const (.int .u8 8)) (.tmp 9) rfl Try.underlying61 Try.underlying5 (l := [(1, [0, 1]), (2, [0, 1]), (3, [0]), (4, [0, 2, 4, 5]), (5, [2, 1]), (6, [2]), (7, [])]) (ps := [3]) (HM7.out.ext (belowK _ _)) 8 rfl rfl rfl (PartRow.new _ _ (HB7.out.size) [3]) (by decide) ?_; intro w7 h7 b7; have HM8 := Lib.hid h7; have HB8 := Lib.hid ((HB7.out.trans ((belowK _ _).mono HB7.out.size)).trans b7); clear h7 b7)
    | (refine wpList_insert rfl rfl 61 (.tmp 1) (.const (.int .u8 9)) (.tmp 10) rfl Try.underlying61 Try.underlying5 (l := [(1, [0, 1]), (2, [0, 1]), (3, [0]), (4, [0, 2, 4, 5]), (5, [2, 1]), (6, [2]), (7, []), (8, [3])]) (ps := [6]) (HM8.out.ext (belowK _ _)) 9 rfl rfl rfl (PartRow.new _ _ (HB8.out.size) [6]) (by decide) ?_; intro w8 h8 b8; have HM9 := Lib.hid h8; have HB9 := Lib.hid ((HB8.out.trans ((belowK _ _).mono HB8.out.size)).trans b8); clear h8 b8)
    | (refine wpList_insert rfl rfl 61 (.tmp 1) (.const (.int .u8 10)) (.tmp 11) rfl Try.underlying61 Try.underlying5 (l := [(1, [0, 1]), (2, [0, 1]), (3, [0]), (4, [0, 2, 4, 5]), (5, [2, 1]), (6, [2]), (7, []), (8, [3]), (9, [6])]) (ps := [6]) (HM9.out.ext (belowK _ _)) 10 rfl rfl rfl (PartRow.new _ _ (HB9.out.size) [6]) (by decide) ?_; intro w9 h9 b9; have HM10 := Lib.hid h9; have HB10 := Lib.hid ((HB9.out.trans ((belowK _ _).mono HB9.out.size)).trans b9); clear h9 b9)
    | (refine wpList_insert rfl rfl 61 (.tmp 1) (.const (.int .u8 11)) (.tmp 12) rfl Try.underlying61 Try.underlying5 (l := [(1, [0, 1]), (2, [0, 1]), (3, [0]), (4, [0, 2, 4, 5]), (5, [2, 1]), (6, [2]), (7, []), (8, [3]), (9, [6]), (10, [6])]) (ps := [6, 7]) (HM10.out.ext (belowK _ _)) 11 rfl rfl rfl (PartRow.new _ _ (HB10.out.size) [6, 7]) (by decide) ?_; intro w10 h10 b10; have HM11 := Lib.hid h10; have HB11 := Lib.hid ((HB10.out.trans ((belowK _ _).mono HB10.out.size)).trans b10); clear h10 b10)
  go_ret
  exact ⟨_, rfl, HM11.out, HB11.out⟩
end Go.Proofs.Ytmobgamlednlhaa
namespace Go.Proofs.Ytmobgamlednlhaa
open Go.RowKit
/-- A record: its kind, its numbers, its texts. -/
structure Rc where
  k : Nat
  proc : Nat
  inc : Nat
  seq : Nat
  epoch : Nat
  until_ : Nat
  version : Nat
  clock : Nat
  size : Nat
  crc : Nat
  name : ByteArray
  to : ByteArray
namespace Rc
def cells (r : Rc) : Array Value := #[.int .u8 (r.k : Nat), .int .u64 (r.proc : Nat), .int .u64 (r.inc : Nat), .int .u64 (r.seq : Nat), .int .u64 (r.epoch : Nat), .int .u64 (r.until_ : Nat), .int .u64 (r.version : Nat), .int .u64 (r.clock : Nat), .int .u64 (r.size : Nat), .int .u64 (r.crc : Nat), .string r.name, .string r.to]
def val (r : Rc) : Value := .agg r.cells
/-- What a machine's record is. -/
def ok (r : Rc) : Prop := r.k < 256 ∧ r.proc < 18446744073709551616 ∧ r.inc < 18446744073709551616 ∧ r.seq < 18446744073709551616 ∧ r.epoch < 18446744073709551616 ∧ r.until_ < 18446744073709551616 ∧ r.version < 18446744073709551616 ∧ r.clock < 18446744073709551616 ∧ r.size < 18446744073709551616 ∧ r.crc < 18446744073709551616 ∧ r.name.size ≤ maxLen ∧ r.to.size ≤ maxLen
/-- The number of a letter. -/
def num (r : Rc) (c : Nat) : Nat := if c = 101 then r.epoch else if c = 117 then r.until_ else if c = 118 then r.version else if c = 115 then r.size else if c = 99 then r.crc else r.clock
/-- The text of a letter. -/
def txt (r : Rc) (c : Nat) : ByteArray := if c = 110 then r.name else r.to
def isText (c : Nat) : Bool := decide (c = 110) || decide (c = 116)
/-- A record with the part of a letter. -/
def with_ (r : Rc) (c n : Nat) (s : ByteArray) : Rc := if c = 101 then { r with epoch := n } else if c = 117 then { r with until_ := n } else if c = 118 then { r with version := n } else if c = 115 then { r with size := n } else if c = 99 then { r with crc := n } else if c = 107 then { r with clock := n } else if c = 110 then { r with name := s } else { r with to := s }
def letters (k : Nat) : List UInt8 := ([[], [101, 117], [101, 117], [101], [101, 118, 115, 99], [118, 117], [118], [], [107], [110], [110], [110, 116]] : List (List UInt8)).getD k []
def words : List (List UInt8) := [[], [103, 114, 97, 110, 116], [114, 101, 110, 101, 119], [114, 101, 108, 101, 97, 115, 101], [99, 111, 109, 109, 105, 116], [112, 105, 110], [117, 110, 112, 105, 110], [115, 101, 97, 108], [99, 111, 109, 112, 97, 99, 116], [98, 105, 110, 100], [117, 110, 98, 105, 110, 100], [114, 101, 110, 97, 109, 101]]
def word (k : Nat) : List UInt8 := words.getD k []
end Rc
end Go.Proofs.Ytmobgamlednlhaa
namespace Go.Proofs.Ytmobgamlednlhaa
open Go.RowKit
set_option maxRecDepth 100000 in
set_option maxHeartbeats 16000000 in
theorem word_any (w : World) (k : Nat) (hk : k < 256) : Calls Try.prog 16 #[.int .u8 (k : Nat)] w fun en w' => en = .returned (.string ⟨(Rc.word k).toArray⟩) ∧ Below w.heap.size w w' := by
  by_cases h12 : k < 12
  · have hc : k = 0 ∨ k = 1 ∨ k = 2 ∨ k = 3 ∨ k = 4 ∨ k = 5 ∨ k = 6 ∨ k = 7 ∨ k = 8 ∨ k = 9 ∨ k = 10 ∨ k = 11 := by omega
    clear h12 hk
    rcases hc with rfl | rfl | rfl | rfl | rfl | rfl | rfl | rfl | rfl | rfl | rfl | rfl
    all_goals
      go_enter Try.func16, Try.ntmps16
      go_wp2_with fail
      go_ret
      exact ⟨rfl, by first | exact belowK _ _ | exact Below.refl _ _⟩
  · have hz : (Rc.word k) = [] := by
      unfold Rc.word Rc.words
      rw [List.getD_eq_getElem?_getD, List.getElem?_eq_none (by simp; omega)]
      rfl
    rw [hz]
    have d1 : decide ((k : Int) < 12) = false := by simp; omega
    have d2 : decide ((11 : Int) < (k : Int)) = true := by simp; omega
    have e1 : IntKind.i64.wrap (k : Int) = (k : Int) := by rw [IntKind.wrap_i64]; omega
    clear hz
    go_enter Try.func16, Try.ntmps16
    go_wp2_with fail
    go_ret
    exact ⟨rfl, by first | exact belowK _ _ | exact Below.refl _ _⟩
set_option maxRecDepth 100000 in
set_option maxHeartbeats 16000000 in
theorem rword_any (w : World) (k : Nat) (hk : k < 256) : Calls Try.prog 17 #[.int .u8 (k : Nat)] w fun en w' => en = .returned (.string ⟨(Rc.word k).toArray⟩) ∧ Below w.heap.size w w' := by
  by_cases h12 : k < 12
  · have hc : k = 0 ∨ k = 1 ∨ k = 2 ∨ k = 3 ∨ k = 4 ∨ k = 5 ∨ k = 6 ∨ k = 7 ∨ k = 8 ∨ k = 9 ∨ k = 10 ∨ k = 11 := by omega
    clear h12 hk
    rcases hc with rfl | rfl | rfl | rfl | rfl | rfl | rfl | rfl | rfl | rfl | rfl | rfl
    all_goals
      go_enter Try.func17, Try.ntmps17
      go_wp2_with fail
      go_ret
      exact ⟨rfl, by first | exact belowK _ _ | exact Below.refl _ _⟩
  · have hz : (Rc.word k) = [] := by
      unfold Rc.word Rc.words
      rw [List.getD_eq_getElem?_getD, List.getElem?_eq_none (by simp; omega)]
      rfl
    rw [hz]
    have d1 : decide ((k : Int) < 12) = false := by simp; omega
    have d2 : decide ((11 : Int) < (k : Int)) = true := by simp; omega
    have e1 : IntKind.i64.wrap (k : Int) = (k : Int) := by rw [IntKind.wrap_i64]; omega
    clear hz
    go_enter Try.func17, Try.ntmps17
    go_wp2_with fail
    go_ret
    exact ⟨rfl, by first | exact belowK _ _ | exact Below.refl _ _⟩
set_option maxRecDepth 100000 in
set_option maxHeartbeats 16000000 in
theorem parts_any (w : World) (k : Nat) (hk : k < 256) : Calls Try.prog 24 #[.int .u8 (k : Nat)] w fun en w' => en = .returned (.string ⟨(Rc.letters k).toArray⟩) ∧ Below w.heap.size w w' := by
  by_cases h12 : k < 12
  · have hc : k = 0 ∨ k = 1 ∨ k = 2 ∨ k = 3 ∨ k = 4 ∨ k = 5 ∨ k = 6 ∨ k = 7 ∨ k = 8 ∨ k = 9 ∨ k = 10 ∨ k = 11 := by omega
    clear h12 hk
    rcases hc with rfl | rfl | rfl | rfl | rfl | rfl | rfl | rfl | rfl | rfl | rfl | rfl
    all_goals
      go_enter Try.func24, Try.ntmps24
      go_wp2_with fail
      go_ret
      exact ⟨rfl, by first | exact belowK _ _ | exact Below.refl _ _⟩
  · have hz : (Rc.letters k) = [] := by
      unfold Rc.letters
      rw [List.getD_eq_getElem?_getD, List.getElem?_eq_none (by simp; omega)]
      rfl
    rw [hz]
    have d1 : decide ((k : Int) < 12) = false := by simp; omega
    have d2 : decide ((11 : Int) < (k : Int)) = true := by simp; omega
    have e1 : IntKind.i64.wrap (k : Int) = (k : Int) := by rw [IntKind.wrap_i64]; omega
    clear hz
    go_enter Try.func24, Try.ntmps24
    go_wp2_with fail
    go_ret
    exact ⟨rfl, by first | exact belowK _ _ | exact Below.refl _ _⟩
set_option maxRecDepth 100000 in
set_option maxHeartbeats 16000000 in
theorem number_any (w : World) (r : Rc) (c : Nat) : Calls Try.prog 29 #[r.val, .int .u8 (c : Nat)] w fun en w' => en = .returned (.int .u64 (r.num c : Nat)) ∧ Below w.heap.size w w' := by
  have hb := belowK w (.cells r.cells 31)
  obtain ⟨k, n0, n1, n2, n3, n4, n5, n6, n7, n8, s0, s1⟩ := r
  simp only [Rc.val, Rc.cells] at hb ⊢
  by_cases h101 : c = 101
  · subst h101
    go_enter Try.func29, Try.ntmps29
    go_wp2_with fail
    go_ret
    exact ⟨by simp [Rc.num, *], hb⟩
  · have b101 : ((c : Int) == 101) = false := by simp; omega
    by_cases h117 : c = 117
    · subst h117
      go_enter Try.func29, Try.ntmps29
      go_wp2_with fail
      go_ret
      exact ⟨by simp [Rc.num, *], hb⟩
    · have b117 : ((c : Int) == 117) = false := by simp; omega
      by_cases h118 : c = 118
      · subst h118
        go_enter Try.func29, Try.ntmps29
        go_wp2_with fail
        go_ret
        exact ⟨by simp [Rc.num, *], hb⟩
      · have b118 : ((c : Int) == 118) = false := by simp; omega
        by_cases h115 : c = 115
        · subst h115
          go_enter Try.func29, Try.ntmps29
          go_wp2_with fail
          go_ret
          exact ⟨by simp [Rc.num, *], hb⟩
        · have b115 : ((c : Int) == 115) = false := by simp; omega
          by_cases h99 : c = 99
          · subst h99
            go_enter Try.func29, Try.ntmps29
            go_wp2_with fail
            go_ret
            exact ⟨by simp [Rc.num, *], hb⟩
          · have b99 : ((c : Int) == 99) = false := by simp; omega
            go_enter Try.func29, Try.ntmps29
            go_wp2_with fail
            go_ret
            exact ⟨by simp [Rc.num, *], hb⟩
set_option maxRecDepth 100000 in
set_option maxHeartbeats 16000000 in
theorem textOf_any (w : World) (r : Rc) (c : Nat) : Calls Try.prog 27 #[r.val, .int .u8 (c : Nat)] w fun en w' => en = .returned (.string (r.txt c)) ∧ Below w.heap.size w w' := by
  have hb := belowK w (.cells r.cells 31)
  obtain ⟨k, n0, n1, n2, n3, n4, n5, n6, n7, n8, s0, s1⟩ := r
  simp only [Rc.val, Rc.cells] at hb ⊢
  by_cases h110 : c = 110
  · subst h110
    go_enter Try.func27, Try.ntmps27
    go_wp2_with fail
    go_ret
    exact ⟨by simp [Rc.txt, *], hb⟩
  · have b110 : ((c : Int) == 110) = false := by simp; omega
    go_enter Try.func27, Try.ntmps27
    go_wp2_with fail
    go_ret
    exact ⟨by simp [Rc.txt, *], hb⟩
set_option maxRecDepth 100000 in
set_option maxHeartbeats 16000000 in
theorem isText_any (w : World) (c : Nat) : Calls Try.prog 25 #[.int .u8 (c : Nat)] w fun en w' => en = .returned (.bool (Rc.isText c)) ∧ Below w.heap.size w w' := by
  by_cases h110 : c = 110
  · subst h110
    go_enter Try.func25, Try.ntmps25
    go_wp2_with fail
    go_ret
    exact ⟨by simp [Rc.isText, *], Below.refl _ _⟩
  · have b110 : ((c : Int) == 110) = false := by simp; omega
    by_cases h116 : c = 116
    · subst h116
      go_enter Try.func25, Try.ntmps25
      go_wp2_with fail
      go_ret
      exact ⟨by simp [Rc.isText, *], Below.refl _ _⟩
    · have b116 : ((c : Int) == 116) = false := by simp; omega
      go_enter Try.func25, Try.ntmps25
      go_wp2_with fail
      go_ret
      exact ⟨by simp [Rc.isText, *], Below.refl _ _⟩
end Go.Proofs.Ytmobgamlednlhaa
namespace Go.Proofs.Ytmobgamlednlhaa
open Go.RowKit
set_option maxRecDepth 100000 in
set_option maxHeartbeats 16000000 in
theorem few_any (w : World) (r : Rc) (hr : r.ok) (b : Bool) (hb0 : b = (decide (r.name.size ≤ 100) && decide (r.to.size ≤ 100))) : Calls Try.prog 8 #[r.val] w fun en w' => en = .returned (.bool b) ∧ Below w.heap.size w w' := by
  have hb := belowK w (.cells r.cells 24)
  obtain ⟨k, n0, n1, n2, n3, n4, n5, n6, n7, n8, s0, s1⟩ := r
  obtain ⟨_, _, _, _, _, _, _, _, _, _, h0, h1⟩ := hr
  simp only [Rc.val, Rc.cells] at hb hb0 h0 h1 ⊢
  unfold maxLen at h0 h1
  by_cases c0 : s0.size ≤ 100
  · by_cases c1 : s1.size ≤ 100
    · have t0 : decide ((s0.size : Int) ≤ 100) = true := by simp; omega
      have t1 : decide ((s1.size : Int) ≤ 100) = true := by simp; omega
      go_enter Try.func8, Try.ntmps8
      go_wp2_with fail
      go_ret
      exact ⟨rfl, hb⟩
    · have t0 : decide ((s0.size : Int) ≤ 100) = true := by simp; omega
      have t1 : decide ((s1.size : Int) ≤ 100) = false := by simp; omega
      go_enter Try.func8, Try.ntmps8
      go_wp2_with fail
      go_ret
      exact ⟨rfl, hb⟩
  · have t0 : decide ((s0.size : Int) ≤ 100) = false := by simp; omega
    go_enter Try.func8, Try.ntmps8
    go_wp2_with fail
    go_ret
    exact ⟨rfl, hb⟩
set_option maxRecDepth 100000 in
set_option maxHeartbeats 16000000 in
theorem ref_any (w : World) (r : Rc) : Calls Try.prog 11 #[r.val] w fun en w' => en = .returned r.val ∧ Below w.heap.size w w' := by
  have hb := belowK w (.cells r.cells 24)
  have hb2 := hb.trans ((belowK (w.alloc (.cells r.cells 24)) (.cells r.cells 31)).mono hb.size)
  obtain ⟨k, n0, n1, n2, n3, n4, n5, n6, n7, n8, s0, s1⟩ := r
  simp only [Rc.val, Rc.cells] at hb hb2 ⊢
  have hw := Whole.new (w.alloc (.cells #[.int .u8 (k : Nat), .int .u64 (n0 : Nat), .int .u64 (n1 : Nat), .int .u64 (n2 : Nat), .int .u64 (n3 : Nat), .int .u64 (n4 : Nat), .int .u64 (n5 : Nat), .int .u64 (n6 : Nat), .int .u64 (n7 : Nat), .int .u64 (n8 : Nat), .string s0, .string s1] 24)) 31 #[.int .u8 (k : Nat), .int .u64 (n0 : Nat), .int .u64 (n1 : Nat), .int .u64 (n2 : Nat), .int .u64 (n3 : Nat), .int .u64 (n4 : Nat), .int .u64 (n5 : Nat), .int .u64 (n6 : Nat), .int .u64 (n7 : Nat), .int .u64 (n8 : Nat), .string s0, .string s1]
  have hz : (w.alloc (.cells #[.int .u8 (k : Nat), .int .u64 (n0 : Nat), .int .u64 (n1 : Nat), .int .u64 (n2 : Nat), .int .u64 (n3 : Nat), .int .u64 (n4 : Nat), .int .u64 (n5 : Nat), .int .u64 (n6 : Nat), .int .u64 (n7 : Nat), .int .u64 (n8 : Nat), .string s0, .string s1] 24)).heap.size = w.heap.size + 1 := by simp
  rw [hz] at hw
  have HW := Lib.hid hw
  have HB := Lib.hid hb2
  clear hb hb2 hw hz
  go_enter Try.func11, Try.ntmps11
  go_wp2_with fail
  generalize World.alloc _ (.cells #[.int .u8 (k : Nat), .int .u64 (n0 : Nat), .int .u64 (n1 : Nat), .int .u64 (n2 : Nat), .int .u64 (n3 : Nat), .int .u64 (n4 : Nat), .int .u64 (n5 : Nat), .int .u64 (n6 : Nat), .int .u64 (n7 : Nat), .int .u64 (n8 : Nat), .string s0, .string s1] 31) = W at HW HB ⊢
  have r0 := HW.out.cell 0
  have r1 := HW.out.cell 1
  have r2 := HW.out.cell 2
  have r3 := HW.out.cell 3
  have r4 := HW.out.cell 4
  have r5 := HW.out.cell 5
  have r6 := HW.out.cell 6
  have r7 := HW.out.cell 7
  have r8 := HW.out.cell 8
  have r9 := HW.out.cell 9
  have r10 := HW.out.cell 10
  have r11 := HW.out.cell 11
  simp at r0 r1 r2 r3 r4 r5 r6 r7 r8 r9 r10 r11
  simp [bodyPost, results, Try.results11, go_sem, r0, r1, r2, r3, r4, r5, r6, r7, r8, r9, r10, r11]
  exact HB.out
end Go.Proofs.Ytmobgamlednlhaa
namespace Go.Proofs.Ytmobgamlednlhaa
open Go.RowKit
set_option maxRecDepth 100000 in
set_option maxHeartbeats 16000000 in
theorem with_any (w : World) (r : Rc) (c n : Nat) (s : ByteArray) : Calls Try.prog 33 #[r.val, .int .u8 (c : Nat), .int .u64 (n : Nat), .string s] w fun en w' => en = .returned (r.with_ c n s).val ∧ Below w.heap.size w w' := by
  obtain ⟨k, n0, n1, n2, n3, n4, n5, n6, n7, n8, s0, s1⟩ := r
  unfold Rc.val Rc.cells
  dsimp only
  by_cases h101 : c = 101
  · subst h101
    have hE : Rc.with_ ⟨k, n0, n1, n2, n3, n4, n5, n6, n7, n8, s0, s1⟩ 101 n s = ⟨k, n0, n1, n2, n, n4, n5, n6, n7, n8, s0, s1⟩ := by simp [Rc.with_, *]
    rw [hE]
    clear hE
    have hb := (belowK w (.cells #[.int .u8 (k : Nat), .int .u64 (n0 : Nat), .int .u64 (n1 : Nat), .int .u64 (n2 : Nat), .int .u64 (n : Nat), .int .u64 (n4 : Nat), .int .u64 (n5 : Nat), .int .u64 (n6 : Nat), .int .u64 (n7 : Nat), .int .u64 (n8 : Nat), .string s0, .string s1] 31)).trans ((belowK (w.alloc (.cells #[.int .u8 (k : Nat), .int .u64 (n0 : Nat), .int .u64 (n1 : Nat), .int .u64 (n2 : Nat), .int .u64 (n : Nat), .int .u64 (n4 : Nat), .int .u64 (n5 : Nat), .int .u64 (n6 : Nat), .int .u64 (n7 : Nat), .int .u64 (n8 : Nat), .string s0, .string s1] 31)) (.cells #[.int .u8 (k : Nat), .int .u64 (n0 : Nat), .int .u64 (n1 : Nat), .int .u64 (n2 : Nat), .int .u64 (n : Nat), .int .u64 (n4 : Nat), .int .u64 (n5 : Nat), .int .u64 (n6 : Nat), .int .u64 (n7 : Nat), .int .u64 (n8 : Nat), .string s0, .string s1] 31)).mono (belowK w (.cells #[.int .u8 (k : Nat), .int .u64 (n0 : Nat), .int .u64 (n1 : Nat), .int .u64 (n2 : Nat), .int .u64 (n : Nat), .int .u64 (n4 : Nat), .int .u64 (n5 : Nat), .int .u64 (n6 : Nat), .int .u64 (n7 : Nat), .int .u64 (n8 : Nat), .string s0, .string s1] 31)).size)
    have hw := Whole.new (w.alloc (.cells #[.int .u8 (k : Nat), .int .u64 (n0 : Nat), .int .u64 (n1 : Nat), .int .u64 (n2 : Nat), .int .u64 (n : Nat), .int .u64 (n4 : Nat), .int .u64 (n5 : Nat), .int .u64 (n6 : Nat), .int .u64 (n7 : Nat), .int .u64 (n8 : Nat), .string s0, .string s1] 31)) 31 #[.int .u8 (k : Nat), .int .u64 (n0 : Nat), .int .u64 (n1 : Nat), .int .u64 (n2 : Nat), .int .u64 (n : Nat), .int .u64 (n4 : Nat), .int .u64 (n5 : Nat), .int .u64 (n6 : Nat), .int .u64 (n7 : Nat), .int .u64 (n8 : Nat), .string s0, .string s1]
    have hz : (w.alloc (.cells #[.int .u8 (k : Nat), .int .u64 (n0 : Nat), .int .u64 (n1 : Nat), .int .u64 (n2 : Nat), .int .u64 (n : Nat), .int .u64 (n4 : Nat), .int .u64 (n5 : Nat), .int .u64 (n6 : Nat), .int .u64 (n7 : Nat), .int .u64 (n8 : Nat), .string s0, .string s1] 31)).heap.size = w.heap.size + 1 := by simp
    rw [hz] at hw
    have HW := Lib.hid hw
    have HB := Lib.hid hb
    clear hb hw hz
    go_enter Try.func33, Try.ntmps33
    go_wp2_with fail
    generalize World.alloc _ (.cells #[.int .u8 (k : Nat), .int .u64 (n0 : Nat), .int .u64 (n1 : Nat), .int .u64 (n2 : Nat), .int .u64 (n : Nat), .int .u64 (n4 : Nat), .int .u64 (n5 : Nat), .int .u64 (n6 : Nat), .int .u64 (n7 : Nat), .int .u64 (n8 : Nat), .string s0, .string s1] 31) = W at HW HB ⊢
    have r0 := HW.out.cell 0
    have r1 := HW.out.cell 1
    have r2 := HW.out.cell 2
    have r3 := HW.out.cell 3
    have r4 := HW.out.cell 4
    have r5 := HW.out.cell 5
    have r6 := HW.out.cell 6
    have r7 := HW.out.cell 7
    have r8 := HW.out.cell 8
    have r9 := HW.out.cell 9
    have r10 := HW.out.cell 10
    have r11 := HW.out.cell 11
    simp at r0 r1 r2 r3 r4 r5 r6 r7 r8 r9 r10 r11
    simp [bodyPost, results, Try.results33, go_sem, r0, r1, r2, r3, r4, r5, r6, r7, r8, r9, r10, r11]
    exact HB.out
  · have b101 : ((c : Int) == 101) = false := by simp; omega
    by_cases h117 : c = 117
    · subst h117
      have hE : Rc.with_ ⟨k, n0, n1, n2, n3, n4, n5, n6, n7, n8, s0, s1⟩ 117 n s = ⟨k, n0, n1, n2, n3, n, n5, n6, n7, n8, s0, s1⟩ := by simp [Rc.with_, *]
      rw [hE]
      clear hE
      have hb := (belowK w (.cells #[.int .u8 (k : Nat), .int .u64 (n0 : Nat), .int .u64 (n1 : Nat), .int .u64 (n2 : Nat), .int .u64 (n3 : Nat), .int .u64 (n : Nat), .int .u64 (n5 : Nat), .int .u64 (n6 : Nat), .int .u64 (n7 : Nat), .int .u64 (n8 : Nat), .string s0, .string s1] 31)).trans ((belowK (w.alloc (.cells #[.int .u8 (k : Nat), .int .u64 (n0 : Nat), .int .u64 (n1 : Nat), .int .u64 (n2 : Nat), .int .u64 (n3 : Nat), .int .u64 (n : Nat), .int .u64 (n5 : Nat), .int .u64 (n6 : Nat), .int .u64 (n7 : Nat), .int .u64 (n8 : Nat), .string s0, .string s1] 31)) (.cells #[.int .u8 (k : Nat), .int .u64 (n0 : Nat), .int .u64 (n1 : Nat), .int .u64 (n2 : Nat), .int .u64 (n3 : Nat), .int .u64 (n : Nat), .int .u64 (n5 : Nat), .int .u64 (n6 : Nat), .int .u64 (n7 : Nat), .int .u64 (n8 : Nat), .string s0, .string s1] 31)).mono (belowK w (.cells #[.int .u8 (k : Nat), .int .u64 (n0 : Nat), .int .u64 (n1 : Nat), .int .u64 (n2 : Nat), .int .u64 (n3 : Nat), .int .u64 (n : Nat), .int .u64 (n5 : Nat), .int .u64 (n6 : Nat), .int .u64 (n7 : Nat), .int .u64 (n8 : Nat), .string s0, .string s1] 31)).size)
      have hw := Whole.new (w.alloc (.cells #[.int .u8 (k : Nat), .int .u64 (n0 : Nat), .int .u64 (n1 : Nat), .int .u64 (n2 : Nat), .int .u64 (n3 : Nat), .int .u64 (n : Nat), .int .u64 (n5 : Nat), .int .u64 (n6 : Nat), .int .u64 (n7 : Nat), .int .u64 (n8 : Nat), .string s0, .string s1] 31)) 31 #[.int .u8 (k : Nat), .int .u64 (n0 : Nat), .int .u64 (n1 : Nat), .int .u64 (n2 : Nat), .int .u64 (n3 : Nat), .int .u64 (n : Nat), .int .u64 (n5 : Nat), .int .u64 (n6 : Nat), .int .u64 (n7 : Nat), .int .u64 (n8 : Nat), .string s0, .string s1]
      have hz : (w.alloc (.cells #[.int .u8 (k : Nat), .int .u64 (n0 : Nat), .int .u64 (n1 : Nat), .int .u64 (n2 : Nat), .int .u64 (n3 : Nat), .int .u64 (n : Nat), .int .u64 (n5 : Nat), .int .u64 (n6 : Nat), .int .u64 (n7 : Nat), .int .u64 (n8 : Nat), .string s0, .string s1] 31)).heap.size = w.heap.size + 1 := by simp
      rw [hz] at hw
      have HW := Lib.hid hw
      have HB := Lib.hid hb
      clear hb hw hz
      go_enter Try.func33, Try.ntmps33
      go_wp2_with fail
      generalize World.alloc _ (.cells #[.int .u8 (k : Nat), .int .u64 (n0 : Nat), .int .u64 (n1 : Nat), .int .u64 (n2 : Nat), .int .u64 (n3 : Nat), .int .u64 (n : Nat), .int .u64 (n5 : Nat), .int .u64 (n6 : Nat), .int .u64 (n7 : Nat), .int .u64 (n8 : Nat), .string s0, .string s1] 31) = W at HW HB ⊢
      have r0 := HW.out.cell 0
      have r1 := HW.out.cell 1
      have r2 := HW.out.cell 2
      have r3 := HW.out.cell 3
      have r4 := HW.out.cell 4
      have r5 := HW.out.cell 5
      have r6 := HW.out.cell 6
      have r7 := HW.out.cell 7
      have r8 := HW.out.cell 8
      have r9 := HW.out.cell 9
      have r10 := HW.out.cell 10
      have r11 := HW.out.cell 11
      simp at r0 r1 r2 r3 r4 r5 r6 r7 r8 r9 r10 r11
      simp [bodyPost, results, Try.results33, go_sem, r0, r1, r2, r3, r4, r5, r6, r7, r8, r9, r10, r11]
      exact HB.out
    · have b117 : ((c : Int) == 117) = false := by simp; omega
      by_cases h118 : c = 118
      · subst h118
        have hE : Rc.with_ ⟨k, n0, n1, n2, n3, n4, n5, n6, n7, n8, s0, s1⟩ 118 n s = ⟨k, n0, n1, n2, n3, n4, n, n6, n7, n8, s0, s1⟩ := by simp [Rc.with_, *]
        rw [hE]
        clear hE
        have hb := (belowK w (.cells #[.int .u8 (k : Nat), .int .u64 (n0 : Nat), .int .u64 (n1 : Nat), .int .u64 (n2 : Nat), .int .u64 (n3 : Nat), .int .u64 (n4 : Nat), .int .u64 (n : Nat), .int .u64 (n6 : Nat), .int .u64 (n7 : Nat), .int .u64 (n8 : Nat), .string s0, .string s1] 31)).trans ((belowK (w.alloc (.cells #[.int .u8 (k : Nat), .int .u64 (n0 : Nat), .int .u64 (n1 : Nat), .int .u64 (n2 : Nat), .int .u64 (n3 : Nat), .int .u64 (n4 : Nat), .int .u64 (n : Nat), .int .u64 (n6 : Nat), .int .u64 (n7 : Nat), .int .u64 (n8 : Nat), .string s0, .string s1] 31)) (.cells #[.int .u8 (k : Nat), .int .u64 (n0 : Nat), .int .u64 (n1 : Nat), .int .u64 (n2 : Nat), .int .u64 (n3 : Nat), .int .u64 (n4 : Nat), .int .u64 (n : Nat), .int .u64 (n6 : Nat), .int .u64 (n7 : Nat), .int .u64 (n8 : Nat), .string s0, .string s1] 31)).mono (belowK w (.cells #[.int .u8 (k : Nat), .int .u64 (n0 : Nat), .int .u64 (n1 : Nat), .int .u64 (n2 : Nat), .int .u64 (n3 : Nat), .int .u64 (n4 : Nat), .int .u64 (n : Nat), .int .u64 (n6 : Nat), .int .u64 (n7 : Nat), .int .u64 (n8 : Nat), .string s0, .string s1] 31)).size)
        have hw := Whole.new (w.alloc (.cells #[.int .u8 (k : Nat), .int .u64 (n0 : Nat), .int .u64 (n1 : Nat), .int .u64 (n2 : Nat), .int .u64 (n3 : Nat), .int .u64 (n4 : Nat), .int .u64 (n : Nat), .int .u64 (n6 : Nat), .int .u64 (n7 : Nat), .int .u64 (n8 : Nat), .string s0, .string s1] 31)) 31 #[.int .u8 (k : Nat), .int .u64 (n0 : Nat), .int .u64 (n1 : Nat), .int .u64 (n2 : Nat), .int .u64 (n3 : Nat), .int .u64 (n4 : Nat), .int .u64 (n : Nat), .int .u64 (n6 : Nat), .int .u64 (n7 : Nat), .int .u64 (n8 : Nat), .string s0, .string s1]
        have hz : (w.alloc (.cells #[.int .u8 (k : Nat), .int .u64 (n0 : Nat), .int .u64 (n1 : Nat), .int .u64 (n2 : Nat), .int .u64 (n3 : Nat), .int .u64 (n4 : Nat), .int .u64 (n : Nat), .int .u64 (n6 : Nat), .int .u64 (n7 : Nat), .int .u64 (n8 : Nat), .string s0, .string s1] 31)).heap.size = w.heap.size + 1 := by simp
        rw [hz] at hw
        have HW := Lib.hid hw
        have HB := Lib.hid hb
        clear hb hw hz
        go_enter Try.func33, Try.ntmps33
        go_wp2_with fail
        generalize World.alloc _ (.cells #[.int .u8 (k : Nat), .int .u64 (n0 : Nat), .int .u64 (n1 : Nat), .int .u64 (n2 : Nat), .int .u64 (n3 : Nat), .int .u64 (n4 : Nat), .int .u64 (n : Nat), .int .u64 (n6 : Nat), .int .u64 (n7 : Nat), .int .u64 (n8 : Nat), .string s0, .string s1] 31) = W at HW HB ⊢
        have r0 := HW.out.cell 0
        have r1 := HW.out.cell 1
        have r2 := HW.out.cell 2
        have r3 := HW.out.cell 3
        have r4 := HW.out.cell 4
        have r5 := HW.out.cell 5
        have r6 := HW.out.cell 6
        have r7 := HW.out.cell 7
        have r8 := HW.out.cell 8
        have r9 := HW.out.cell 9
        have r10 := HW.out.cell 10
        have r11 := HW.out.cell 11
        simp at r0 r1 r2 r3 r4 r5 r6 r7 r8 r9 r10 r11
        simp [bodyPost, results, Try.results33, go_sem, r0, r1, r2, r3, r4, r5, r6, r7, r8, r9, r10, r11]
        exact HB.out
      · have b118 : ((c : Int) == 118) = false := by simp; omega
        by_cases h115 : c = 115
        · subst h115
          have hE : Rc.with_ ⟨k, n0, n1, n2, n3, n4, n5, n6, n7, n8, s0, s1⟩ 115 n s = ⟨k, n0, n1, n2, n3, n4, n5, n6, n, n8, s0, s1⟩ := by simp [Rc.with_, *]
          rw [hE]
          clear hE
          have hb := (belowK w (.cells #[.int .u8 (k : Nat), .int .u64 (n0 : Nat), .int .u64 (n1 : Nat), .int .u64 (n2 : Nat), .int .u64 (n3 : Nat), .int .u64 (n4 : Nat), .int .u64 (n5 : Nat), .int .u64 (n6 : Nat), .int .u64 (n : Nat), .int .u64 (n8 : Nat), .string s0, .string s1] 31)).trans ((belowK (w.alloc (.cells #[.int .u8 (k : Nat), .int .u64 (n0 : Nat), .int .u64 (n1 : Nat), .int .u64 (n2 : Nat), .int .u64 (n3 : Nat), .int .u64 (n4 : Nat), .int .u64 (n5 : Nat), .int .u64 (n6 : Nat), .int .u64 (n : Nat), .int .u64 (n8 : Nat), .string s0, .string s1] 31)) (.cells #[.int .u8 (k : Nat), .int .u64 (n0 : Nat), .int .u64 (n1 : Nat), .int .u64 (n2 : Nat), .int .u64 (n3 : Nat), .int .u64 (n4 : Nat), .int .u64 (n5 : Nat), .int .u64 (n6 : Nat), .int .u64 (n : Nat), .int .u64 (n8 : Nat), .string s0, .string s1] 31)).mono (belowK w (.cells #[.int .u8 (k : Nat), .int .u64 (n0 : Nat), .int .u64 (n1 : Nat), .int .u64 (n2 : Nat), .int .u64 (n3 : Nat), .int .u64 (n4 : Nat), .int .u64 (n5 : Nat), .int .u64 (n6 : Nat), .int .u64 (n : Nat), .int .u64 (n8 : Nat), .string s0, .string s1] 31)).size)
          have hw := Whole.new (w.alloc (.cells #[.int .u8 (k : Nat), .int .u64 (n0 : Nat), .int .u64 (n1 : Nat), .int .u64 (n2 : Nat), .int .u64 (n3 : Nat), .int .u64 (n4 : Nat), .int .u64 (n5 : Nat), .int .u64 (n6 : Nat), .int .u64 (n : Nat), .int .u64 (n8 : Nat), .string s0, .string s1] 31)) 31 #[.int .u8 (k : Nat), .int .u64 (n0 : Nat), .int .u64 (n1 : Nat), .int .u64 (n2 : Nat), .int .u64 (n3 : Nat), .int .u64 (n4 : Nat), .int .u64 (n5 : Nat), .int .u64 (n6 : Nat), .int .u64 (n : Nat), .int .u64 (n8 : Nat), .string s0, .string s1]
          have hz : (w.alloc (.cells #[.int .u8 (k : Nat), .int .u64 (n0 : Nat), .int .u64 (n1 : Nat), .int .u64 (n2 : Nat), .int .u64 (n3 : Nat), .int .u64 (n4 : Nat), .int .u64 (n5 : Nat), .int .u64 (n6 : Nat), .int .u64 (n : Nat), .int .u64 (n8 : Nat), .string s0, .string s1] 31)).heap.size = w.heap.size + 1 := by simp
          rw [hz] at hw
          have HW := Lib.hid hw
          have HB := Lib.hid hb
          clear hb hw hz
          go_enter Try.func33, Try.ntmps33
          go_wp2_with fail
          generalize World.alloc _ (.cells #[.int .u8 (k : Nat), .int .u64 (n0 : Nat), .int .u64 (n1 : Nat), .int .u64 (n2 : Nat), .int .u64 (n3 : Nat), .int .u64 (n4 : Nat), .int .u64 (n5 : Nat), .int .u64 (n6 : Nat), .int .u64 (n : Nat), .int .u64 (n8 : Nat), .string s0, .string s1] 31) = W at HW HB ⊢
          have r0 := HW.out.cell 0
          have r1 := HW.out.cell 1
          have r2 := HW.out.cell 2
          have r3 := HW.out.cell 3
          have r4 := HW.out.cell 4
          have r5 := HW.out.cell 5
          have r6 := HW.out.cell 6
          have r7 := HW.out.cell 7
          have r8 := HW.out.cell 8
          have r9 := HW.out.cell 9
          have r10 := HW.out.cell 10
          have r11 := HW.out.cell 11
          simp at r0 r1 r2 r3 r4 r5 r6 r7 r8 r9 r10 r11
          simp [bodyPost, results, Try.results33, go_sem, r0, r1, r2, r3, r4, r5, r6, r7, r8, r9, r10, r11]
          exact HB.out
        · have b115 : ((c : Int) == 115) = false := by simp; omega
          by_cases h99 : c = 99
          · subst h99
            have hE : Rc.with_ ⟨k, n0, n1, n2, n3, n4, n5, n6, n7, n8, s0, s1⟩ 99 n s = ⟨k, n0, n1, n2, n3, n4, n5, n6, n7, n, s0, s1⟩ := by simp [Rc.with_, *]
            rw [hE]
            clear hE
            have hb := (belowK w (.cells #[.int .u8 (k : Nat), .int .u64 (n0 : Nat), .int .u64 (n1 : Nat), .int .u64 (n2 : Nat), .int .u64 (n3 : Nat), .int .u64 (n4 : Nat), .int .u64 (n5 : Nat), .int .u64 (n6 : Nat), .int .u64 (n7 : Nat), .int .u64 (n : Nat), .string s0, .string s1] 31)).trans ((belowK (w.alloc (.cells #[.int .u8 (k : Nat), .int .u64 (n0 : Nat), .int .u64 (n1 : Nat), .int .u64 (n2 : Nat), .int .u64 (n3 : Nat), .int .u64 (n4 : Nat), .int .u64 (n5 : Nat), .int .u64 (n6 : Nat), .int .u64 (n7 : Nat), .int .u64 (n : Nat), .string s0, .string s1] 31)) (.cells #[.int .u8 (k : Nat), .int .u64 (n0 : Nat), .int .u64 (n1 : Nat), .int .u64 (n2 : Nat), .int .u64 (n3 : Nat), .int .u64 (n4 : Nat), .int .u64 (n5 : Nat), .int .u64 (n6 : Nat), .int .u64 (n7 : Nat), .int .u64 (n : Nat), .string s0, .string s1] 31)).mono (belowK w (.cells #[.int .u8 (k : Nat), .int .u64 (n0 : Nat), .int .u64 (n1 : Nat), .int .u64 (n2 : Nat), .int .u64 (n3 : Nat), .int .u64 (n4 : Nat), .int .u64 (n5 : Nat), .int .u64 (n6 : Nat), .int .u64 (n7 : Nat), .int .u64 (n : Nat), .string s0, .string s1] 31)).size)
            have hw := Whole.new (w.alloc (.cells #[.int .u8 (k : Nat), .int .u64 (n0 : Nat), .int .u64 (n1 : Nat), .int .u64 (n2 : Nat), .int .u64 (n3 : Nat), .int .u64 (n4 : Nat), .int .u64 (n5 : Nat), .int .u64 (n6 : Nat), .int .u64 (n7 : Nat), .int .u64 (n : Nat), .string s0, .string s1] 31)) 31 #[.int .u8 (k : Nat), .int .u64 (n0 : Nat), .int .u64 (n1 : Nat), .int .u64 (n2 : Nat), .int .u64 (n3 : Nat), .int .u64 (n4 : Nat), .int .u64 (n5 : Nat), .int .u64 (n6 : Nat), .int .u64 (n7 : Nat), .int .u64 (n : Nat), .string s0, .string s1]
            have hz : (w.alloc (.cells #[.int .u8 (k : Nat), .int .u64 (n0 : Nat), .int .u64 (n1 : Nat), .int .u64 (n2 : Nat), .int .u64 (n3 : Nat), .int .u64 (n4 : Nat), .int .u64 (n5 : Nat), .int .u64 (n6 : Nat), .int .u64 (n7 : Nat), .int .u64 (n : Nat), .string s0, .string s1] 31)).heap.size = w.heap.size + 1 := by simp
            rw [hz] at hw
            have HW := Lib.hid hw
            have HB := Lib.hid hb
            clear hb hw hz
            go_enter Try.func33, Try.ntmps33
            go_wp2_with fail
            generalize World.alloc _ (.cells #[.int .u8 (k : Nat), .int .u64 (n0 : Nat), .int .u64 (n1 : Nat), .int .u64 (n2 : Nat), .int .u64 (n3 : Nat), .int .u64 (n4 : Nat), .int .u64 (n5 : Nat), .int .u64 (n6 : Nat), .int .u64 (n7 : Nat), .int .u64 (n : Nat), .string s0, .string s1] 31) = W at HW HB ⊢
            have r0 := HW.out.cell 0
            have r1 := HW.out.cell 1
            have r2 := HW.out.cell 2
            have r3 := HW.out.cell 3
            have r4 := HW.out.cell 4
            have r5 := HW.out.cell 5
            have r6 := HW.out.cell 6
            have r7 := HW.out.cell 7
            have r8 := HW.out.cell 8
            have r9 := HW.out.cell 9
            have r10 := HW.out.cell 10
            have r11 := HW.out.cell 11
            simp at r0 r1 r2 r3 r4 r5 r6 r7 r8 r9 r10 r11
            simp [bodyPost, results, Try.results33, go_sem, r0, r1, r2, r3, r4, r5, r6, r7, r8, r9, r10, r11]
            exact HB.out
          · have b99 : ((c : Int) == 99) = false := by simp; omega
            by_cases h107 : c = 107
            · subst h107
              have hE : Rc.with_ ⟨k, n0, n1, n2, n3, n4, n5, n6, n7, n8, s0, s1⟩ 107 n s = ⟨k, n0, n1, n2, n3, n4, n5, n, n7, n8, s0, s1⟩ := by simp [Rc.with_, *]
              rw [hE]
              clear hE
              have hb := (belowK w (.cells #[.int .u8 (k : Nat), .int .u64 (n0 : Nat), .int .u64 (n1 : Nat), .int .u64 (n2 : Nat), .int .u64 (n3 : Nat), .int .u64 (n4 : Nat), .int .u64 (n5 : Nat), .int .u64 (n : Nat), .int .u64 (n7 : Nat), .int .u64 (n8 : Nat), .string s0, .string s1] 31)).trans ((belowK (w.alloc (.cells #[.int .u8 (k : Nat), .int .u64 (n0 : Nat), .int .u64 (n1 : Nat), .int .u64 (n2 : Nat), .int .u64 (n3 : Nat), .int .u64 (n4 : Nat), .int .u64 (n5 : Nat), .int .u64 (n : Nat), .int .u64 (n7 : Nat), .int .u64 (n8 : Nat), .string s0, .string s1] 31)) (.cells #[.int .u8 (k : Nat), .int .u64 (n0 : Nat), .int .u64 (n1 : Nat), .int .u64 (n2 : Nat), .int .u64 (n3 : Nat), .int .u64 (n4 : Nat), .int .u64 (n5 : Nat), .int .u64 (n : Nat), .int .u64 (n7 : Nat), .int .u64 (n8 : Nat), .string s0, .string s1] 31)).mono (belowK w (.cells #[.int .u8 (k : Nat), .int .u64 (n0 : Nat), .int .u64 (n1 : Nat), .int .u64 (n2 : Nat), .int .u64 (n3 : Nat), .int .u64 (n4 : Nat), .int .u64 (n5 : Nat), .int .u64 (n : Nat), .int .u64 (n7 : Nat), .int .u64 (n8 : Nat), .string s0, .string s1] 31)).size)
              have hw := Whole.new (w.alloc (.cells #[.int .u8 (k : Nat), .int .u64 (n0 : Nat), .int .u64 (n1 : Nat), .int .u64 (n2 : Nat), .int .u64 (n3 : Nat), .int .u64 (n4 : Nat), .int .u64 (n5 : Nat), .int .u64 (n : Nat), .int .u64 (n7 : Nat), .int .u64 (n8 : Nat), .string s0, .string s1] 31)) 31 #[.int .u8 (k : Nat), .int .u64 (n0 : Nat), .int .u64 (n1 : Nat), .int .u64 (n2 : Nat), .int .u64 (n3 : Nat), .int .u64 (n4 : Nat), .int .u64 (n5 : Nat), .int .u64 (n : Nat), .int .u64 (n7 : Nat), .int .u64 (n8 : Nat), .string s0, .string s1]
              have hz : (w.alloc (.cells #[.int .u8 (k : Nat), .int .u64 (n0 : Nat), .int .u64 (n1 : Nat), .int .u64 (n2 : Nat), .int .u64 (n3 : Nat), .int .u64 (n4 : Nat), .int .u64 (n5 : Nat), .int .u64 (n : Nat), .int .u64 (n7 : Nat), .int .u64 (n8 : Nat), .string s0, .string s1] 31)).heap.size = w.heap.size + 1 := by simp
              rw [hz] at hw
              have HW := Lib.hid hw
              have HB := Lib.hid hb
              clear hb hw hz
              go_enter Try.func33, Try.ntmps33
              go_wp2_with fail
              generalize World.alloc _ (.cells #[.int .u8 (k : Nat), .int .u64 (n0 : Nat), .int .u64 (n1 : Nat), .int .u64 (n2 : Nat), .int .u64 (n3 : Nat), .int .u64 (n4 : Nat), .int .u64 (n5 : Nat), .int .u64 (n : Nat), .int .u64 (n7 : Nat), .int .u64 (n8 : Nat), .string s0, .string s1] 31) = W at HW HB ⊢
              have r0 := HW.out.cell 0
              have r1 := HW.out.cell 1
              have r2 := HW.out.cell 2
              have r3 := HW.out.cell 3
              have r4 := HW.out.cell 4
              have r5 := HW.out.cell 5
              have r6 := HW.out.cell 6
              have r7 := HW.out.cell 7
              have r8 := HW.out.cell 8
              have r9 := HW.out.cell 9
              have r10 := HW.out.cell 10
              have r11 := HW.out.cell 11
              simp at r0 r1 r2 r3 r4 r5 r6 r7 r8 r9 r10 r11
              simp [bodyPost, results, Try.results33, go_sem, r0, r1, r2, r3, r4, r5, r6, r7, r8, r9, r10, r11]
              exact HB.out
            · have b107 : ((c : Int) == 107) = false := by simp; omega
              by_cases h110 : c = 110
              · subst h110
                have hE : Rc.with_ ⟨k, n0, n1, n2, n3, n4, n5, n6, n7, n8, s0, s1⟩ 110 n s = ⟨k, n0, n1, n2, n3, n4, n5, n6, n7, n8, s, s1⟩ := by simp [Rc.with_, *]
                rw [hE]
                clear hE
                have hb := (belowK w (.cells #[.int .u8 (k : Nat), .int .u64 (n0 : Nat), .int .u64 (n1 : Nat), .int .u64 (n2 : Nat), .int .u64 (n3 : Nat), .int .u64 (n4 : Nat), .int .u64 (n5 : Nat), .int .u64 (n6 : Nat), .int .u64 (n7 : Nat), .int .u64 (n8 : Nat), .string s, .string s1] 31)).trans ((belowK (w.alloc (.cells #[.int .u8 (k : Nat), .int .u64 (n0 : Nat), .int .u64 (n1 : Nat), .int .u64 (n2 : Nat), .int .u64 (n3 : Nat), .int .u64 (n4 : Nat), .int .u64 (n5 : Nat), .int .u64 (n6 : Nat), .int .u64 (n7 : Nat), .int .u64 (n8 : Nat), .string s, .string s1] 31)) (.cells #[.int .u8 (k : Nat), .int .u64 (n0 : Nat), .int .u64 (n1 : Nat), .int .u64 (n2 : Nat), .int .u64 (n3 : Nat), .int .u64 (n4 : Nat), .int .u64 (n5 : Nat), .int .u64 (n6 : Nat), .int .u64 (n7 : Nat), .int .u64 (n8 : Nat), .string s, .string s1] 31)).mono (belowK w (.cells #[.int .u8 (k : Nat), .int .u64 (n0 : Nat), .int .u64 (n1 : Nat), .int .u64 (n2 : Nat), .int .u64 (n3 : Nat), .int .u64 (n4 : Nat), .int .u64 (n5 : Nat), .int .u64 (n6 : Nat), .int .u64 (n7 : Nat), .int .u64 (n8 : Nat), .string s, .string s1] 31)).size)
                have hw := Whole.new (w.alloc (.cells #[.int .u8 (k : Nat), .int .u64 (n0 : Nat), .int .u64 (n1 : Nat), .int .u64 (n2 : Nat), .int .u64 (n3 : Nat), .int .u64 (n4 : Nat), .int .u64 (n5 : Nat), .int .u64 (n6 : Nat), .int .u64 (n7 : Nat), .int .u64 (n8 : Nat), .string s, .string s1] 31)) 31 #[.int .u8 (k : Nat), .int .u64 (n0 : Nat), .int .u64 (n1 : Nat), .int .u64 (n2 : Nat), .int .u64 (n3 : Nat), .int .u64 (n4 : Nat), .int .u64 (n5 : Nat), .int .u64 (n6 : Nat), .int .u64 (n7 : Nat), .int .u64 (n8 : Nat), .string s, .string s1]
                have hz : (w.alloc (.cells #[.int .u8 (k : Nat), .int .u64 (n0 : Nat), .int .u64 (n1 : Nat), .int .u64 (n2 : Nat), .int .u64 (n3 : Nat), .int .u64 (n4 : Nat), .int .u64 (n5 : Nat), .int .u64 (n6 : Nat), .int .u64 (n7 : Nat), .int .u64 (n8 : Nat), .string s, .string s1] 31)).heap.size = w.heap.size + 1 := by simp
                rw [hz] at hw
                have HW := Lib.hid hw
                have HB := Lib.hid hb
                clear hb hw hz
                go_enter Try.func33, Try.ntmps33
                go_wp2_with fail
                generalize World.alloc _ (.cells #[.int .u8 (k : Nat), .int .u64 (n0 : Nat), .int .u64 (n1 : Nat), .int .u64 (n2 : Nat), .int .u64 (n3 : Nat), .int .u64 (n4 : Nat), .int .u64 (n5 : Nat), .int .u64 (n6 : Nat), .int .u64 (n7 : Nat), .int .u64 (n8 : Nat), .string s, .string s1] 31) = W at HW HB ⊢
                have r0 := HW.out.cell 0
                have r1 := HW.out.cell 1
                have r2 := HW.out.cell 2
                have r3 := HW.out.cell 3
                have r4 := HW.out.cell 4
                have r5 := HW.out.cell 5
                have r6 := HW.out.cell 6
                have r7 := HW.out.cell 7
                have r8 := HW.out.cell 8
                have r9 := HW.out.cell 9
                have r10 := HW.out.cell 10
                have r11 := HW.out.cell 11
                simp at r0 r1 r2 r3 r4 r5 r6 r7 r8 r9 r10 r11
                simp [bodyPost, results, Try.results33, go_sem, r0, r1, r2, r3, r4, r5, r6, r7, r8, r9, r10, r11]
                exact HB.out
              · have b110 : ((c : Int) == 110) = false := by simp; omega
                have hE : Rc.with_ ⟨k, n0, n1, n2, n3, n4, n5, n6, n7, n8, s0, s1⟩ c n s = ⟨k, n0, n1, n2, n3, n4, n5, n6, n7, n8, s0, s⟩ := by simp [Rc.with_, *]
                rw [hE]
                clear hE
                have hb := (belowK w (.cells #[.int .u8 (k : Nat), .int .u64 (n0 : Nat), .int .u64 (n1 : Nat), .int .u64 (n2 : Nat), .int .u64 (n3 : Nat), .int .u64 (n4 : Nat), .int .u64 (n5 : Nat), .int .u64 (n6 : Nat), .int .u64 (n7 : Nat), .int .u64 (n8 : Nat), .string s0, .string s] 31)).trans ((belowK (w.alloc (.cells #[.int .u8 (k : Nat), .int .u64 (n0 : Nat), .int .u64 (n1 : Nat), .int .u64 (n2 : Nat), .int .u64 (n3 : Nat), .int .u64 (n4 : Nat), .int .u64 (n5 : Nat), .int .u64 (n6 : Nat), .int .u64 (n7 : Nat), .int .u64 (n8 : Nat), .string s0, .string s] 31)) (.cells #[.int .u8 (k : Nat), .int .u64 (n0 : Nat), .int .u64 (n1 : Nat), .int .u64 (n2 : Nat), .int .u64 (n3 : Nat), .int .u64 (n4 : Nat), .int .u64 (n5 : Nat), .int .u64 (n6 : Nat), .int .u64 (n7 : Nat), .int .u64 (n8 : Nat), .string s0, .string s] 31)).mono (belowK w (.cells #[.int .u8 (k : Nat), .int .u64 (n0 : Nat), .int .u64 (n1 : Nat), .int .u64 (n2 : Nat), .int .u64 (n3 : Nat), .int .u64 (n4 : Nat), .int .u64 (n5 : Nat), .int .u64 (n6 : Nat), .int .u64 (n7 : Nat), .int .u64 (n8 : Nat), .string s0, .string s] 31)).size)
                have hw := Whole.new (w.alloc (.cells #[.int .u8 (k : Nat), .int .u64 (n0 : Nat), .int .u64 (n1 : Nat), .int .u64 (n2 : Nat), .int .u64 (n3 : Nat), .int .u64 (n4 : Nat), .int .u64 (n5 : Nat), .int .u64 (n6 : Nat), .int .u64 (n7 : Nat), .int .u64 (n8 : Nat), .string s0, .string s] 31)) 31 #[.int .u8 (k : Nat), .int .u64 (n0 : Nat), .int .u64 (n1 : Nat), .int .u64 (n2 : Nat), .int .u64 (n3 : Nat), .int .u64 (n4 : Nat), .int .u64 (n5 : Nat), .int .u64 (n6 : Nat), .int .u64 (n7 : Nat), .int .u64 (n8 : Nat), .string s0, .string s]
                have hz : (w.alloc (.cells #[.int .u8 (k : Nat), .int .u64 (n0 : Nat), .int .u64 (n1 : Nat), .int .u64 (n2 : Nat), .int .u64 (n3 : Nat), .int .u64 (n4 : Nat), .int .u64 (n5 : Nat), .int .u64 (n6 : Nat), .int .u64 (n7 : Nat), .int .u64 (n8 : Nat), .string s0, .string s] 31)).heap.size = w.heap.size + 1 := by simp
                rw [hz] at hw
                have HW := Lib.hid hw
                have HB := Lib.hid hb
                clear hb hw hz
                go_enter Try.func33, Try.ntmps33
                go_wp2_with fail
                generalize World.alloc _ (.cells #[.int .u8 (k : Nat), .int .u64 (n0 : Nat), .int .u64 (n1 : Nat), .int .u64 (n2 : Nat), .int .u64 (n3 : Nat), .int .u64 (n4 : Nat), .int .u64 (n5 : Nat), .int .u64 (n6 : Nat), .int .u64 (n7 : Nat), .int .u64 (n8 : Nat), .string s0, .string s] 31) = W at HW HB ⊢
                have r0 := HW.out.cell 0
                have r1 := HW.out.cell 1
                have r2 := HW.out.cell 2
                have r3 := HW.out.cell 3
                have r4 := HW.out.cell 4
                have r5 := HW.out.cell 5
                have r6 := HW.out.cell 6
                have r7 := HW.out.cell 7
                have r8 := HW.out.cell 8
                have r9 := HW.out.cell 9
                have r10 := HW.out.cell 10
                have r11 := HW.out.cell 11
                simp at r0 r1 r2 r3 r4 r5 r6 r7 r8 r9 r10 r11
                simp [bodyPost, results, Try.results33, go_sem, r0, r1, r2, r3, r4, r5, r6, r7, r8, r9, r10, r11]
                exact HB.out
end Go.Proofs.Ytmobgamlednlhaa
namespace Go.Proofs.Ytmobgamlednlhaa
open Go.RowKit
theorem bytes_list (x y : ByteArray) : (x.toList = y.toList) = (x = y) := by
  have h := Lib.bytes_beq_iff x y
  apply propext
  rw [← h]
  simp
theorem bytes_eqb (x y : ByteArray) : (x == y) = decide (x = y) := by
  by_cases h : x = y
  · rw [decide_eq_true h]; exact (MapKept.bytes_beq _ _).2 h
  · rw [decide_eq_false h]
    cases hb : (x == y) with
    | false => rfl
    | true => exact absurd ((MapKept.bytes_beq _ _).1 hb) h
/-- Are two records the same? -/
def Rc.eqB (a b : Rc) : Bool := (a.k : Int) == (b.k : Int) && ((a.proc : Int) == (b.proc : Int) && ((a.inc : Int) == (b.inc : Int) && ((a.seq : Int) == (b.seq : Int) && ((a.epoch : Int) == (b.epoch : Int) && ((a.until_ : Int) == (b.until_ : Int) && ((a.version : Int) == (b.version : Int) && ((a.clock : Int) == (b.clock : Int) && ((a.size : Int) == (b.size : Int) && ((a.crc : Int) == (b.crc : Int) && (a.name == b.name && a.to == b.to))))))))))
theorem Rc.eqB_iff (a b : Rc) : a.eqB b = true ↔ a = b := by
  obtain ⟨a0, a1, a2, a3, a4, a5, a6, a7, a8, a9, a10, a11⟩ := a
  obtain ⟨b0, b1, b2, b3, b4, b5, b6, b7, b8, b9, b10, b11⟩ := b
  unfold Rc.eqB
  simp only [Bool.and_eq_true, beq_iff_eq, Rc.mk.injEq]
  constructor
  · rintro ⟨h0, h1, h2, h3, h4, h5, h6, h7, h8, h9, h10, h11⟩
    exact ⟨by omega, by omega, by omega, by omega, by omega, by omega, by omega, by omega, by omega, by omega, (MapKept.bytes_beq _ _).1 h10, (MapKept.bytes_beq _ _).1 h11⟩
  · rintro ⟨rfl, rfl, rfl, rfl, rfl, rfl, rfl, rfl, rfl, rfl, rfl, rfl⟩
    exact ⟨rfl, rfl, rfl, rfl, rfl, rfl, rfl, rfl, rfl, rfl, (MapKept.bytes_beq _ _).2 rfl, (MapKept.bytes_beq _ _).2 rfl⟩
attribute [local simp] bytes_list bytes_eqb
theorem rec_guard (op : BinOp) (x y : Operand) (xs ys : Array Value) (w : World) : (eqGuard op 24 x y (.agg xs) (.agg ys)).run Try.prog w = .ok () w := run_eqGuard_agg w op _ x y xs ys (by kernel_rfl)
set_option maxHeartbeats 4000000 in
set_option maxRecDepth 100000 in
theorem rec_equalIn (w : World) (a0 a1 a2 a3 a4 a5 a6 a7 a8 a9 : Int) (a10 a11 : ByteArray) (b0 b1 b2 b3 b4 b5 b6 b7 b8 b9 : Int) (b10 b11 : ByteArray) :
    (Op.equalIn 10000 24 (.agg #[.int .u8 a0, .int .u64 a1, .int .u64 a2, .int .u64 a3, .int .u64 a4, .int .u64 a5, .int .u64 a6, .int .u64 a7, .int .u64 a8, .int .u64 a9, .string a10, .string a11]) (.agg #[.int .u8 b0, .int .u64 b1, .int .u64 b2, .int .u64 b3, .int .u64 b4, .int .u64 b5, .int .u64 b6, .int .u64 b7, .int .u64 b8, .int .u64 b9, .string b10, .string b11])).run Try.prog w = .ok (a0 == b0 && (a1 == b1 && (a2 == b2 && (a3 == b3 && (a4 == b4 && (a5 == b5 && (a6 == b6 && (a7 == b7 && (a8 == b8 && (a9 == b9 && (a10 == b10 && (a11 == b11)))))))))))) w := by
  have hS : Try.prog.underlying 24 = some (.struct (Try.prog.fieldsOf 24)) := by kernel_rfl
  have hp : Try.prog.stoodInHeld 24 = false := by kernel_rfl
  rw [show (10000 : Nat) = 9999 + 1 from rfl, run_equalIn_agg w 9999 _ _ _ hS hp]
  simp only [Program.fieldsOf, Try.underlying24]
  have u1 := Try.underlying22
  have u2 := Try.underlying5
  have u3 := Try.underlying9
  have z1 := Try.isAgg22
  have z2 := Try.isAgg5
  have z3 := Try.isAgg9
  have z4 := Try.sizeOf22
  have z5 := Try.sizeOf5
  have z6 := Try.sizeOf9
  go_simp
  by_cases h0 : a0 = b0
  · subst h0
    by_cases h1 : a1 = b1
    · subst h1
      by_cases h2 : a2 = b2
      · subst h2
        by_cases h3 : a3 = b3
        · subst h3
          by_cases h4 : a4 = b4
          · subst h4
            by_cases h5 : a5 = b5
            · subst h5
              by_cases h6 : a6 = b6
              · subst h6
                by_cases h7 : a7 = b7
                · subst h7
                  by_cases h8 : a8 = b8
                  · subst h8
                    by_cases h9 : a9 = b9
                    · subst h9
                      by_cases h10 : a10 = b10 <;> by_cases h11 : a11 = b11 <;> simp [h10, h11]
                    · simp [h9]
                  · simp [h8]
                · simp [h7]
              · simp [h6]
            · simp [h5]
          · simp [h4]
        · simp [h3]
      · simp [h2]
    · simp [h1]
  · simp [h0]
theorem rec_eql (w : World) (a0 a1 a2 a3 a4 a5 a6 a7 a8 a9 : Int) (a10 a11 : ByteArray) (b0 b1 b2 b3 b4 b5 b6 b7 b8 b9 : Int) (b10 b11 : ByteArray) :
    (binOp .eql 24 (.agg #[.int .u8 a0, .int .u64 a1, .int .u64 a2, .int .u64 a3, .int .u64 a4, .int .u64 a5, .int .u64 a6, .int .u64 a7, .int .u64 a8, .int .u64 a9, .string a10, .string a11]) (.agg #[.int .u8 b0, .int .u64 b1, .int .u64 b2, .int .u64 b3, .int .u64 b4, .int .u64 b5, .int .u64 b6, .int .u64 b7, .int .u64 b8, .int .u64 b9, .string b10, .string b11])).run Try.prog w = .ok (.bool (a0 == b0 && (a1 == b1 && (a2 == b2 && (a3 == b3 && (a4 == b4 && (a5 == b5 && (a6 == b6 && (a7 == b7 && (a8 == b8 && (a9 == b9 && (a10 == b10 && (a11 == b11))))))))))))) w := by
  rw [run_eql_struct, rec_equalIn]
  rfl
theorem rrec_guard (op : BinOp) (x y : Operand) (xs ys : Array Value) (w : World) : (eqGuard op 31 x y (.agg xs) (.agg ys)).run Try.prog w = .ok () w := run_eqGuard_agg w op _ x y xs ys (by kernel_rfl)
set_option maxHeartbeats 4000000 in
set_option maxRecDepth 100000 in
theorem rrec_equalIn (w : World) (a0 a1 a2 a3 a4 a5 a6 a7 a8 a9 : Int) (a10 a11 : ByteArray) (b0 b1 b2 b3 b4 b5 b6 b7 b8 b9 : Int) (b10 b11 : ByteArray) :
    (Op.equalIn 10000 31 (.agg #[.int .u8 a0, .int .u64 a1, .int .u64 a2, .int .u64 a3, .int .u64 a4, .int .u64 a5, .int .u64 a6, .int .u64 a7, .int .u64 a8, .int .u64 a9, .string a10, .string a11]) (.agg #[.int .u8 b0, .int .u64 b1, .int .u64 b2, .int .u64 b3, .int .u64 b4, .int .u64 b5, .int .u64 b6, .int .u64 b7, .int .u64 b8, .int .u64 b9, .string b10, .string b11])).run Try.prog w = .ok (a0 == b0 && (a1 == b1 && (a2 == b2 && (a3 == b3 && (a4 == b4 && (a5 == b5 && (a6 == b6 && (a7 == b7 && (a8 == b8 && (a9 == b9 && (a10 == b10 && (a11 == b11)))))))))))) w := by
  have hS : Try.prog.underlying 31 = some (.struct (Try.prog.fieldsOf 31)) := by kernel_rfl
  have hp : Try.prog.stoodInHeld 31 = false := by kernel_rfl
  rw [show (10000 : Nat) = 9999 + 1 from rfl, run_equalIn_agg w 9999 _ _ _ hS hp]
  simp only [Program.fieldsOf, Try.underlying31]
  have u1 := Try.underlying22
  have u2 := Try.underlying5
  have u3 := Try.underlying9
  have z1 := Try.isAgg22
  have z2 := Try.isAgg5
  have z3 := Try.isAgg9
  have z4 := Try.sizeOf22
  have z5 := Try.sizeOf5
  have z6 := Try.sizeOf9
  go_simp
  by_cases h0 : a0 = b0
  · subst h0
    by_cases h1 : a1 = b1
    · subst h1
      by_cases h2 : a2 = b2
      · subst h2
        by_cases h3 : a3 = b3
        · subst h3
          by_cases h4 : a4 = b4
          · subst h4
            by_cases h5 : a5 = b5
            · subst h5
              by_cases h6 : a6 = b6
              · subst h6
                by_cases h7 : a7 = b7
                · subst h7
                  by_cases h8 : a8 = b8
                  · subst h8
                    by_cases h9 : a9 = b9
                    · subst h9
                      by_cases h10 : a10 = b10 <;> by_cases h11 : a11 = b11 <;> simp [h10, h11]
                    · simp [h9]
                  · simp [h8]
                · simp [h7]
              · simp [h6]
            · simp [h5]
          · simp [h4]
        · simp [h3]
      · simp [h2]
    · simp [h1]
  · simp [h0]
theorem rrec_eql (w : World) (a0 a1 a2 a3 a4 a5 a6 a7 a8 a9 : Int) (a10 a11 : ByteArray) (b0 b1 b2 b3 b4 b5 b6 b7 b8 b9 : Int) (b10 b11 : ByteArray) :
    (binOp .eql 31 (.agg #[.int .u8 a0, .int .u64 a1, .int .u64 a2, .int .u64 a3, .int .u64 a4, .int .u64 a5, .int .u64 a6, .int .u64 a7, .int .u64 a8, .int .u64 a9, .string a10, .string a11]) (.agg #[.int .u8 b0, .int .u64 b1, .int .u64 b2, .int .u64 b3, .int .u64 b4, .int .u64 b5, .int .u64 b6, .int .u64 b7, .int .u64 b8, .int .u64 b9, .string b10, .string b11])).run Try.prog w = .ok (.bool (a0 == b0 && (a1 == b1 && (a2 == b2 && (a3 == b3 && (a4 == b4 && (a5 == b5 && (a6 == b6 && (a7 == b7 && (a8 == b8 && (a9 == b9 && (a10 == b10 && (a11 == b11))))))))))))) w := by
  rw [run_eql_struct, rrec_equalIn]
  rfl
end Go.Proofs.Ytmobgamlednlhaa
namespace Go.Proofs.Ytmobgamlednlhaa
open Go.RowKit
/-- s is the name of the visitor's method number i, as the program's own type has it. -/
def IsMet (i : Nat) (s : String) : Prop := ∃ ms, Try.prog.underlying 89 = some (.interface ms) ∧ ms[i]?.map (·.1) = some s
theorem IsMet.zero {s s' : String} {a b : TypeId} (hu : Try.prog.underlying 89 = some (.interface #[(s, a), (s', b)])) : IsMet 0 s := ⟨_, hu, rfl⟩
theorem IsMet.one {s s' : String} {a b : TypeId} (hu : Try.prog.underlying 89 = some (.interface #[(s, a), (s', b)])) : IsMet 1 s' := ⟨_, hu, rfl⟩
theorem IsMet.all {i : Nat} {s0 : String} (h0 : IsMet i s0) {p : String → Prop} (hp : p s0) (s : String) (h : IsMet i s) : p s := by
  obtain ⟨ms, h1, h2⟩ := h0
  obtain ⟨ms', h3, h4⟩ := h
  rw [h1] at h3
  injection h3 with h3
  injection h3 with h3
  subst h3
  rw [h2] at h4
  injection h4 with h4
  subst h4
  exact hp
theorem index_three (p0 p1 p2 : Option Addr) (w : World) : (Instr.index 92 (.agg #[.pointer p0, .pointer p1, .pointer p2]) (.int .i64 0)).run Try.prog w = .ok (.pointer p0) w ∧
    (Instr.index 92 (.agg #[.pointer p0, .pointer p1, .pointer p2]) (.int .i64 1)).run Try.prog w = .ok (.pointer p1) w ∧ (Instr.index 92 (.agg #[.pointer p0, .pointer p1, .pointer p2]) (.int .i64 2)).run Try.prog w = .ok (.pointer p2) w := by
  refine ⟨?_, ?_, ?_⟩ <;> kernel_rfl
end Go.Proofs.Ytmobgamlednlhaa
