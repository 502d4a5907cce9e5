/-
  append onto a slice that the call itself made: the source nil, empty or not; what comes back, spelled as a slice. A row made at once. No function of the program in sight.
-/
import Derived.Test.YtmobgamlednlhaaWords
import Derived.RegionTactic
import Derived.Deep.RegionLaw
import Derived.Laws.BytesArg
namespace Go.Proofs.Ytmobgamlednlhaa
open Go.RowKit

/-- Slice type t of elements of type e, each of 'size' cells and 'bytes' bytes. -/
def ElemOK (P : Program) (t e : TypeId) (size bytes : Nat) : Prop :=
  P.underlying t = some (.slice e) ∧ ∃ i z, P.info? e = some i ∧ i.zero = some z ∧ i.size = size ∧ i.bytes = bytes ∧ z.cells.size = size ∧ 0 < size
theorem ElemOK.mk_ {P : Program} {t e : TypeId} {size bytes : Nat} {z : Value} (ht : P.underlying t = some (.slice e)) (h : (P.info? e).map (fun i => (i.zero, i.size, i.bytes)) = some (some z, size, bytes))
    (hz : z.cells.size = size) (hs : 0 < size) : ElemOK P t e size bytes := by
  obtain ⟨i, hi, h0, h1, h2⟩ := info_parts h
  exact ⟨ht, i, z, hi, h0, h1, h2, hz, hs⟩

section
variable {P : Program} (w : World)
theorem own_form {base : Nat} {e : TypeId} {size n : Nat} {v : Value} {xs : List Value} (h : w.ownsRow base e size v n xs) : ∃ A c, v = .slice A n c := by
  rcases h.2 with ⟨rfl, rfl⟩ | ⟨g, cap, cur, rfl, _⟩
  · exact ⟨none, 0, rfl⟩
  · exact ⟨_, _, rfl⟩
theorem run_append_rd {t ty e : TypeId} {size bytes : Nat} (he : ElemOK P t e size bytes) (base : Nat)
    (v : Value) (n : Nat) (xs : List Value) (hown : w.ownsRow base e size v n xs)
    (B : Nat) (A : Option Addr) (m c : Nat) (news : List Value) (hr : Rd w B size A m news) (h1 : ∀ u ∈ news, u.oneCell' = true)
    (h63 : n + m ≤ maxLen) (hbytes : (n + m) * bytes ≤ 140737488355328) (hbase : base ≤ w.heap.size) :
    ∃ A' c' w', (Builtin.append_ #[t, t] ty #[v, .slice A m c]).run P w = .ok (.slice A' (n + m) c') w' ∧ w'.ownsRow base e size (.slice A' (n + m) c') (n + m) (xs ++ news) ∧ w.grownBy w' v.ownBlock ∧ Below base w w' ∧
      ((Value.slice A' (n + m) c').ownBlock = v.ownBlock ∨ (Value.slice A' (n + m) c').ownBlock = some w.heap.size) := by
  obtain ⟨ht, i, z, hi, hz, hsize, hby, hzs, hsz⟩ := he
  have hlt := hown.lt
  have key : ∃ v' w', (Builtin.append_ #[t, t] ty #[v, .slice A m c]).run P w = .ok v' w' ∧ w'.ownsRow base e size v' (n + m) (xs ++ news) ∧ w.grownBy w' v.ownBlock ∧
      (v'.ownBlock = v.ownBlock ∨ v'.ownBlock = some w.heap.size) := by
    rcases Nat.eq_zero_or_pos m with h0 | h0
    · subst h0
      have hn : news = [] := List.eq_nil_of_length_eq_zero (by simpa using hr.1)
      subst hn
      refine ⟨v, w, ?_, by simpa using hown, World.grownBy.refl w _, .inl rfl⟩
      rcases hown.2 with ⟨rfl, rfl⟩ | ⟨g, cap, cur, rfl, _, _, hnc, _⟩
      · cases A <;> simp [Builtin.append_, run_underlying ht, sizeOf, typeInfo, hi, Builtin.lenOf, Builtin.firstCells, loadCells, loadCellsFrom]
      · cases A <;> simp [Builtin.append_, run_underlying ht, sizeOf, typeInfo, hi, Builtin.lenOf, Builtin.firstCells, loadCells, loadCellsFrom, hnc, storeCells]
    · obtain ⟨ad, rfl, _, hc⟩ := hr.cells h0
      obtain ⟨v', w', h2, h3, h4, _, h6⟩ := run_append_own_at (P := P) w base t ty e i z size bytes ht hi hz hsize hby hzs hsz v n xs hown ad m c news hr.1 hc h1 h63 hbytes hbase
      exact ⟨v', w', h2, h3, h4, h6⟩
  obtain ⟨v', w', h2, h3, h4, h5⟩ := key
  obtain ⟨A', c', rfl⟩ := own_form w' h3
  exact ⟨A', c', w', h2, h3, h4, (Below.refl base w).grown h4 hbase (fun k hk => (hlt k hk).1), h5⟩

theorem wp_append_rd {o : Oper} {a : Act} {K : Act → World → Prop} {Q : Exit → Act → World → Prop} (s x : Operand) (t : TypeId)
    (ho : o.op = .call { callee := .builtin .append, args := #[s, x], argTypes := #[t, t] })
    {e : TypeId} {size bytes : Nat} (he : ElemOK P t e size bytes) (base : Nat)
    (v : Value) (n : Nat) (xs : List Value) (hs : a.eval s = v) (hown : w.ownsRow base e size v n xs)
    (B : Nat) (A : Option Addr) (m c : Nat) (news : List Value) (hx : a.eval x = .slice A m c) (hr : Rd w B size A m news) (h1 : ∀ u ∈ news, u.oneCell' = true)
    (h63 : n + m ≤ maxLen) (hbytes : (n + m) * bytes ≤ 140737488355328) (hbase : base ≤ w.heap.size)
    (h : ∀ A' c' w', w'.ownsRow base e size (.slice A' (n + m) c') (n + m) (xs ++ news) → Below base w w' → w.grownBy w' v.ownBlock → ((Value.slice A' (n + m) c').ownBlock = v.ownBlock ∨ (Value.slice A' (n + m) c').ownBlock = some w.heap.size) → K (a.put o.dst (.slice A' (n + m) c')) w') : o.wp P a w K Q := by
  obtain ⟨A', c', w', hrun, h2, h3, h4, h5⟩ := run_append_rd (P := P) w (ty := o.type) he base v n xs hown B A m c news hr h1 h63 hbytes hbase
  unfold Oper.wp execOp
  simp only [ho, resolve, invoke, builtin, Sem.run_bind, Sem.run_pure, Result.andThen_ok, List.map_toArray, List.map_cons, List.map_nil, hs, hx, hrun]
  exact h A' c' w' h2 h4 h3 h5

theorem wpList_append_rd {ops : Array Oper} {rest : List Oper} {o : Oper} {a : Act} {Q : Exit → Act → World → Prop} (hgd : o.guard = none) (s x : Operand) (t : TypeId)
    (ho : o.op = .call { callee := .builtin .append, args := #[s, x], argTypes := #[t, t] })
    {e : TypeId} {size bytes : Nat} (he : ElemOK P t e size bytes) (base : Nat)
    (v : Value) (n : Nat) (xs : List Value) (hs : a.eval s = v) (hown : w.ownsRow base e size v n xs)
    (B : Nat) (A : Option Addr) (m c : Nat) (news : List Value) (hx : a.eval x = .slice A m c) (hr : Rd w B size A m news) (h1 : ∀ u ∈ news, u.oneCell' = true)
    (h63 : n + m ≤ maxLen) (hbytes : (n + m) * bytes ≤ 140737488355328) (hbase : base ≤ w.heap.size)
    (h : ∀ A' c' w', w'.ownsRow base e size (.slice A' (n + m) c') (n + m) (xs ++ news) → Below base w w' → w.grownBy w' v.ownBlock → ((Value.slice A' (n + m) c').ownBlock = v.ownBlock ∨ (Value.slice A' (n + m) c').ownBlock = some w.heap.size) →
      wpList P ops Q rest (a.put o.dst (.slice A' (n + m) c')) w') : wpList P ops Q (o :: rest) a w :=
  wpList_plain hgd fun _ hK => wp_append_rd w s x t ho he base v n xs hs hown B A m c news hx hr h1 h63 hbytes hbase fun A' c' w' h2 h3 h4 h5 => hK _ _ (h A' c' w' h2 h3 h4 h5)

theorem step_append_rd {ops : Array Oper} {o : Oper} {a : Act} {K : Act → World → Prop} {Q : Exit → Act → World → Prop} {E : Prop} (hgd : o.guard = none) (s x : Operand) (t : TypeId)
    (ho : o.op = .call { callee := .builtin .append, args := #[s, x], argTypes := #[t, t] })
    {e : TypeId} {size bytes : Nat} (he : ElemOK P t e size bytes) (base : Nat)
    (v : Value) (n : Nat) (xs : List Value) (hs : a.eval s = v) (hown : w.ownsRow base e size v n xs)
    (B : Nat) (A : Option Addr) (m c : Nat) (news : List Value) (hx : a.eval x = .slice A m c) (hr : Rd w B size A m news) (h1 : ∀ u ∈ news, u.oneCell' = true)
    (h63 : n + m ≤ maxLen) (hbytes : (n + m) * bytes ≤ 140737488355328) (hbase : base ≤ w.heap.size)
    (h : ∀ A' c' w', w'.ownsRow base e size (.slice A' (n + m) c') (n + m) (xs ++ news) → Below base w w' → w.grownBy w' v.ownBlock → ((Value.slice A' (n + m) c').ownBlock = v.ownBlock ∨ (Value.slice A' (n + m) c').ownBlock = some w.heap.size) →
      K (a.put o.dst (.slice A' (n + m) c')) w') :
    if Region.wanted o (yielded ops a.tmps) = true then Oper.wp P o a w K Q else E := by
  have hw : Region.wanted o (yielded ops a.tmps) = true := by simp [Region.wanted, hgd]
  rw [if_pos hw]
  exact wp_append_rd w s x t ho he base v n xs hs hown B A m c news hx hr h1 h63 hbytes hbase h
end
/-- An owned row that is not empty: its block, whole. -/
theorem own_whole {w : World} {base : Nat} {e : TypeId} {s n : Nat} {A : Option Addr} {c : Nat} {xs : List Value} (h : w.ownsRow base e s (.slice A n c) n xs) (hn : 0 < n) :
    ∃ g cur, A = some ⟨g, 0, none⟩ ∧ base ≤ g ∧ Whole w g e cur ∧ cur.toList.take (n * s) = xs := by
  rcases h.2 with ⟨hv, h0⟩ | ⟨g, cap, cur, hv, hb, hh, _, _, _, ht⟩
  · omega
  · injection hv with hA
    exact ⟨g, cur, hA, hb, hh, ht⟩
theorem own_cap {w : World} {base : Nat} {e : TypeId} {s n : Nat} {A : Option Addr} {c : Nat} {xs : List Value} (h : w.ownsRow base e s (.slice A n c) n xs) : n ≤ c ∧ c ≤ maxLen := by
  rcases h.2 with ⟨hv, h0⟩ | ⟨g, cap, cur, hv, hb, hh, h1, h2, _⟩
  · injection hv with _ _ hc; subst hc; subst h0; exact ⟨Nat.le_refl _, Nat.zero_le _⟩
  · injection hv with _ _ hc; subst hc; exact ⟨h1, h2⟩
/-- A byte of a block that is known, written. -/
theorem put_byte {w : World} {g B n j : Nat} {t : TypeId} {cur : Array Value} {xs : List UInt8} (y : UInt8) (hw : Whole w g t cur) (ht : cur.toList.take n = byts xs) (hB : B ≤ g) :
    ∃ cur', Whole (w.setCell ⟨g, j, none⟩ (.int .u8 (y.toNat : Int))) g t cur' ∧ cur'.toList.take n = byts (xs.set j y) ∧ Below B w (w.setCell ⟨g, j, none⟩ (.int .u8 (y.toNat : Int))) := by
  refine ⟨_, hw.put_ j _, ?_, (Below.refl B w).setCell hB _⟩
  rw [Array.toList_setIfInBounds, List.take_set, ht]
  unfold byts
  rw [List.map_set]
theorem Whole.byte {w : World} {g n k : Nat} {t : TypeId} {cur : Array Value} {L : List UInt8} (hw : Whole w g t cur) (ht : cur.toList.take n = byts L) (hk : k < n) (hl : k < L.length) :
    w.cell? ⟨g, k, none⟩ = some (.int .u8 (L[k].toNat : Int)) := by
  rw [hw.cell, ← byts_get hl, ← ht]
  simp [hk]
/-- A row of noughts. -/
def zrow (n : Nat) : Array Value := (List.replicate n (Value.int .u8 0)).toArray
theorem zrow_byts (n : Nat) : (zrow n).toList = byts (List.replicate n 0) := by
  unfold zrow byts
  rw [List.map_replicate]
  rfl
theorem zrow_size (n : Nat) : (zrow n).size = n := by unfold zrow; simp
theorem run_make_bytes {P : Program} {t e : TypeId} (he : P.underlying t = some (.slice e)) (h : (P.info? e).map (fun i => (i.zero, i.size, i.bytes)) = some (some (.int .u8 0), 1, 1)) (kl kc : IntKind) (n : Nat) (hn : n ≤ 281474976710656) (w : World) :
    (Instr.makeSlice t (.int kl (n : Int)) (.int kc (n : Int))).run P w = .ok (.slice (some ⟨w.heap.size, 0, none⟩) n n) (w.alloc (.cells (zrow n) e)) := by
  obtain ⟨i, hi, h0, h1, h2⟩ := info_parts h
  have hr := run_make (P := P) w t e i (.int .u8 0) he hi h0 kl kc n n (by omega) (by omega) (by rw [h2]; omega) (by omega)
  simp only [Int.toNat_natCast] at hr
  have e1 : madeCells (Value.cells (.int .u8 0)) (n * i.size) = zrow n := by
    rw [h1, Nat.mul_one]
    apply Array.ext'
    exact toList_madeCells_one _ n
  rw [hr, e1]
/-- One new element, in a block of its own. -/
theorem Rd.new1 (w : World) (e : TypeId) (v : Value) : Rd (w.alloc (.cells #[v] e)) (w.heap.size + 1) 1 (some ⟨w.heap.size, 0, none⟩) 1 [v] := by
  refine ⟨rfl, fun _ => ⟨w.heap.size, 0, rfl, by omega, fun j u hu => ?_⟩⟩
  match j, hu with
  | 0, hu => simp at hu; subst hu; exact (Whole.new w e #[v]).cell 0
theorem Rd.new {w : World} (e : TypeId) (vs : List Value) : Rd (w.alloc (.cells vs.toArray e)) (w.heap.size + 1) 1 (some ⟨w.heap.size, 0, none⟩) vs.length vs := by
  refine ⟨by simp, fun _ => ⟨w.heap.size, 0, rfl, by omega, fun j u hu => ?_⟩⟩
  rw [Nat.zero_add, (Whole.new w e vs.toArray).cell j]
  simpa using hu

/-- 'string(b)'. -/
theorem run_string_of {P : Program} {w : World} {t e d : TypeId} (ht : P.underlying t = some (.slice e)) (he : P.underlying e = some (.int .u8)) (hd : P.underlying d = some .string)
    {B n : Nat} {A : Option Addr} {l : List UInt8} (h : Rd w B 1 A n (byts l)) (c : Nat) : (convert t d (.slice A n c)).run P w = .ok (.string ⟨l.toArray⟩) w := by
  have hl := h.blen
  have hs : strOfNums (l.map fun x => (x.toNat : Int)) = ⟨l.toArray⟩ := by
    unfold strOfNums
    rw [List.map_map]
    congr 2
    conv => rhs; rw [← List.map_id l]
    apply List.map_congr_left
    intro x _
    simp
  cases A with
  | none =>
    have h0 : n = 0 := by
      rcases Nat.eq_zero_or_pos n with h0 | h0
      · exact h0
      · obtain ⟨b, o, he, _⟩ := h.2 h0; cases he
    subst h0
    have : l = [] := List.eq_nil_of_length_eq_zero hl
    subst this
    exact run_convert_bytes_nil w t e ht he 0 c d hd
  | some a =>
    rcases Nat.eq_zero_or_pos n with h0 | h0
    · subst h0
      have : l = [] := List.eq_nil_of_length_eq_zero hl
      subst this
      rw [run_convert_bytes_string w t d e _ 0 c ht he hd, run_bytesToString w a 0 c [] (by simp [loadCells, loadCellsFrom])]
      rfl
    · obtain ⟨b, o, hA, _, hc⟩ := h.2 h0
      cases hA
      rw [run_convert_bytes_arg w t e ht he b o n c (l.map fun x => (x.toNat : Int)) (by simpa using hl) (fun i hi => ?_) d hd, hs]
      rw [hc i _ (byts_get (show i < l.length by omega))]
      simp [List.getD, List.getElem?_eq_getElem (show i < l.length by omega)]

/-- Slices of bytes that each own a row of type te. -/
def OwnRows (w : World) (base : Nat) (te : TypeId) (ls : List (List UInt8)) (vs : List Value) : Prop :=
  vs.length = ls.length ∧ ∀ j (hj : j < ls.length), ∃ A c, vs[j]? = some (.slice A ls[j].length c) ∧ w.ownsRow base te 1 (.slice A ls[j].length c) ls[j].length (byts ls[j])
theorem own_kept {w w' : World} {base base' : Nat} {te tr : TypeId} {s s' n n' : Nat} {v u : Value} {xs ys : List Value} (h : w.ownsRow base te s v n xs) (hg : w.grownBy w' u.ownBlock) (hu : w.ownsRow base' tr s' u n' ys) (hne : te ≠ tr) :
    w'.ownsRow base te s v n xs := by
  refine h.kept hg ?_
  rcases h.2 with ⟨rfl, _⟩ | ⟨g, cap, cur, rfl, _, hh, _⟩
  · exact .inl rfl
  · right
    rcases hu.2 with ⟨rfl, _⟩ | ⟨g', cap', cur', rfl, _, hh', _⟩
    · simp [Value.ownBlock]
    · intro e
      have e2 : g = g' := by simpa [Value.ownBlock] using e
      subst e2
      rw [hh] at hh'
      injection hh' with h1
      injection h1 with _ h2
      exact hne h2
theorem own_ext {w w' : World} {base : Nat} {te : TypeId} {s n : Nat} {v : Value} {xs : List Value} (h : w.ownsRow base te s v n xs) (k : Below w.heap.size w w') : w'.ownsRow base te s v n xs :=
  h.kept (row := none) ⟨k.os, k.tape, k.output, k.size, fun i hi _ => k.block i hi⟩ (by cases v.ownBlock <;> simp)
theorem OwnRows.nil (w : World) (base : Nat) (te : TypeId) : OwnRows w base te [] [] := ⟨rfl, fun j hj => absurd hj (by simp)⟩
theorem OwnRows.ext {w w' : World} {base : Nat} {te : TypeId} {ls : List (List UInt8)} {vs : List Value} (h : OwnRows w base te ls vs) (k : Below w.heap.size w w') : OwnRows w' base te ls vs :=
  ⟨h.1, fun j hj => by obtain ⟨A, c, h1, h2⟩ := h.2 j hj; exact ⟨A, c, h1, own_ext h2 k⟩⟩
theorem OwnRows.kept {w w' : World} {base base' : Nat} {te tr : TypeId} {s' n' : Nat} {u : Value} {ls : List (List UInt8)} {vs ys : List Value} (h : OwnRows w base te ls vs) (hg : w.grownBy w' u.ownBlock) (hu : w.ownsRow base' tr s' u n' ys) (hne : te ≠ tr) :
    OwnRows w' base te ls vs :=
  ⟨h.1, fun j hj => by obtain ⟨A, c, h1, h2⟩ := h.2 j hj; exact ⟨A, c, h1, own_kept h2 hg hu hne⟩⟩
theorem OwnRows.snoc {w : World} {base : Nat} {te : TypeId} {ls : List (List UInt8)} {vs : List Value} (h : OwnRows w base te ls vs) {l : List UInt8} {A : Option Addr} {c n : Nat} (hn : l.length = n) (ho : w.ownsRow base te 1 (.slice A n c) n (byts l)) :
    OwnRows w base te (ls ++ [l]) (vs ++ [.slice A n c]) := by
  subst hn
  refine ⟨by simp [h.1], fun j hj => ?_⟩
  rcases Nat.lt_or_ge j ls.length with hlt | hge
  · obtain ⟨A', c', h1, h2⟩ := h.2 j hlt
    have e : (ls ++ [l])[j] = ls[j] := List.getElem_append_left hlt
    rw [e]
    exact ⟨A', c', by rw [List.getElem?_append_left (by rw [h.1]; exact hlt)]; exact h1, h2⟩
  · have hje : j = ls.length := by simp at hj; omega
    subst hje
    have e : (ls ++ [l])[ls.length] = l := by simp
    rw [e]
    exact ⟨A, c, by rw [← h.1]; simp, ho⟩
end Go.Proofs.Ytmobgamlednlhaa
