/-
  Regions that draw their order and whose operations only make memory (calls, new rows) or compute: ONE walk in the order of the text serves every order.
  What each operation that is no mere computation yields is said ahead ('GSpec'): a value with a parameter x (an address, say) and a fact on the world that stays true while only new blocks come. An operation may lean on the facts of those alone that must come before it.
-/
import Derived.Test.YtmobgamlednlhaaWords
import Derived.Deep.Quiet
namespace Go.Proofs.Ytmobgamlednlhaa
open Go.RowKit

/-- w' is w with new blocks. -/
abbrev Ext (w w' : World) : Prop := Below w.heap.size w w'
theorem Ext.trans {a b c : World} (h : Ext a b) (k : Ext b c) : Ext a c := Below.trans h (k.mono h.size)

structure GSpec where
  X : Type
  x0 : X
  val : X → Value
  F : Oper → (Operand → Value) → X → World → Prop
  loc : ∀ (o : Oper) (r r' : Operand → Value), (∀ x ∈ o.op.operands, r x = r' x) → F o r = F o r'
  keep : ∀ o r x w w', F o r x w → Ext w w' → F o r x w'

/-- One value, known ahead. -/
def GSpec.fix (v : Value) : GSpec := ⟨Unit, (), fun _ => v, fun _ _ _ _ => True, fun _ _ _ _ => rfl, fun _ _ _ _ _ _ _ => trivial⟩
/-- A slice in new memory (a call's): from block 'base' on. -/
def GSpec.own (base : Nat) (e : TypeId) (s n : Nat) (xs : List Value) : GSpec :=
  ⟨Option Addr × Nat, (none, 0), fun x => .slice x.1 n x.2, fun _ _ x w => w.ownsRow base e s (.slice x.1 n x.2) n xs, fun _ _ _ _ => rfl,
    fun _ _ x w w' h k => h.kept (row := none) ⟨k.os, k.tape, k.output, k.size, fun i hi _ => k.block i hi⟩ (by cases (Value.slice x.1 n x.2).ownBlock <;> simp)⟩
def rowOf (o : Oper) (r : Operand → Value) : Array Value :=
  match o.op with
  | .buildSlice _ _ ps => (ps.toList.map fun p => r p.2).toArray
  | _ => #[]
/-- A new row of the operands' values. -/
def GSpec.row (E : TypeId) (n : Nat) : GSpec :=
  ⟨Nat, 0, fun g => .slice (some ⟨g, 0, none⟩) n n, fun o r g w => Whole w g E (rowOf o r), fun o r r' h => by
      have : rowOf o r = rowOf o r' := by
        unfold rowOf
        split
        · rename_i ps he
          congr 1
          apply List.map_congr_left
          intro p hp
          exact h _ (by rw [he]; unfold Op.operands; simp only [List.mem_toArray, List.mem_map]; exact ⟨p, hp, rfl⟩)
        · rfl
      rw [this],
    fun _ _ _ _ _ h k => h.below k h.lt⟩
/-- A new row of cells that are known ahead. -/
def GSpec.wh (E : TypeId) (n : Nat) (cs : Array Value) : GSpec :=
  ⟨Nat, 0, fun g => .slice (some ⟨g, 0, none⟩) n n, fun _ _ g w => Whole w g E cs, fun _ _ _ _ => rfl, fun _ _ _ _ _ h k => h.below k h.lt⟩

def Oper.growUpon (P : Program) (s : GSpec) (o : Oper) (r : Operand → Value) (w : World) : Result Next → Prop
  | .ok (.value u) w' => ∃ x, u = s.val x ∧ s.F o r x w' ∧ Ext w w'
  | .ok .skip w' => ∃ x, undef = s.val x ∧ s.F o r x w' ∧ Ext w w'
  | .ok (.enter f args) w' => w' = w ∧ Calls P f args w (fun e w'' => ∃ x, e = .returned (s.val x) ∧ s.F o r x w'' ∧ Ext w w'')
  | _ => False
def Oper.growAt (P : Program) (o : Oper) (a : Act) (s : GSpec) (w : World) : Prop := Oper.growUpon P s o a.eval w ((execOp a.eval o).run P w)

/-- Which operations must come before number k. -/
def masksFrom : List Oper → Array Nat → Array Nat
  | [], acc => acc
  | o :: l, acc => masksFrom l (acc.push (o.after.toList.foldl (fun s e => if Region.binds .any e then s ||| 2 ^ e.on ||| acc.getD e.on 0 else s) 0))
def anc (ops : Array Oper) (k i : Nat) : Bool := ((masksFrom ops.toList #[]).getD k 0).testBit i

def updF (f : Nat → World → Prop) (k : Nat) (F : World → Prop) : Nat → World → Prop := fun i => if i = k then F else f i

section
variable {P : Program} {ops : Array Oper} {S : Nat → Option GSpec} {w0 : World}

/-- What may be leaned on at number k. -/
def Class (ops : Array Oper) (w0 : World) (f : Nat → World → Prop) (k : Nat) (w : World) : Prop := Ext w0 w ∧ ∀ i, anc ops k i = true → f i w

/-- The walk in the order of the text. -/
def wpGrow (P : Program) (ops : Array Oper) (S : Nat → Option GSpec) (w0 : World) (Q : Act → World → Prop) : Nat → List Oper → (Nat → World → Prop) → Act → Prop
  | _, [], f, a => ∀ w, Ext w0 w → (∀ i, f i w) → Q a w
  | k, o :: rest, f, a =>
    if Region.wanted o (yielded ops a.tmps) = true then
      match S k with
      | none => ∃ v, (∀ w, (execOp a.eval o).run P w = .ok (.value v) w) ∧ wpGrow P ops S w0 Q (k + 1) rest f (a.put o.dst v)
      | some s => (∀ w, Class ops w0 f k w → Oper.growAt P o a s w) ∧ ∀ x, wpGrow P ops S w0 Q (k + 1) rest (updF f k (s.F o a.eval x)) (a.put o.dst (s.val x))
    else wpGrow P ops S w0 Q (k + 1) rest f (a.put o.dst undef)

theorem wpGrow_pure0 {Q : Act → World → Prop} {k : Nat} {o : Oper} {rest : List Oper} {f : Nat → World → Prop} {a : Act} (h0 : S k = none)
    (h : ∀ K : Act → Prop, Hid (∀ a, wpGrow P ops S w0 Q (k + 1) rest f a → K a) →
      if Region.wanted o (yielded ops a.tmps) = true then (∃ v, (∀ w, (execOp a.eval o).run P w = .ok (.value v) w) ∧ K (a.put o.dst v)) else K (a.put o.dst undef)) :
    wpGrow P ops S w0 Q k (o :: rest) f a := by
  unfold wpGrow
  simp only [h0]
  exact h _ (fun _ h => h)
theorem wpGrow_eff0 {Q : Act → World → Prop} {k : Nat} {o : Oper} {rest : List Oper} {f : Nat → World → Prop} {a : Act} (s : GSpec) (h0 : S k = some s)
    (h1 : ∀ w, Ext w0 w → Hid (∀ i, anc ops k i = true → f i w) → Oper.growAt P o a s w)
    (h2 : ∀ (x : s.X) (K : Act → Prop), Hid (∀ a', wpGrow P ops S w0 Q (k + 1) rest (updF f k (s.F o a.eval x)) a' → K a') → K (a.put o.dst (s.val x)))
    (hw : Region.wanted o (yielded ops a.tmps) = true) : wpGrow P ops S w0 Q k (o :: rest) f a := by
  unfold wpGrow
  simp only [h0, hw, if_true]
  exact ⟨fun w hc => h1 w hc.1 hc.2, fun x => h2 x _ (fun _ h => h)⟩
theorem wpGrow_skip0 {Q : Act → World → Prop} {k : Nat} {o : Oper} {rest : List Oper} {f : Nat → World → Prop} {a : Act} (hw : Region.wanted o (yielded ops a.tmps) = false)
    (h : ∀ K : Act → Prop, Hid (∀ a, wpGrow P ops S w0 Q (k + 1) rest f a → K a) → K (a.put o.dst undef)) :
    wpGrow P ops S w0 Q k (o :: rest) f a := by
  unfold wpGrow
  simp only [hw]
  exact h _ (fun _ h => h)
theorem wpGrow_nil0 {Q : Act → World → Prop} {k : Nat} {f : Nat → World → Prop} {a : Act} (h : ∀ w, Ext w0 w → Hid (∀ i, f i w) → Q a w) : wpGrow P ops S w0 Q k [] f a := by
  unfold wpGrow
  exact h

/-! ### What must come before -/
theorem fold_mask (acc : Array Nat) (i : Nat) : ∀ (l : List Edge) (s : Nat), (l.foldl (fun s e => if Region.binds .any e then s ||| 2 ^ e.on ||| acc.getD e.on 0 else s) s).testBit i = true →
    s.testBit i = true ∨ ∃ e ∈ l, Region.binds .any e = true ∧ (e.on = i ∨ (acc.getD e.on 0).testBit i = true)
  | [], s, h => .inl h
  | e :: l, s, h => by
    rw [List.foldl_cons] at h
    rcases fold_mask acc i l _ h with h1 | ⟨e', he, hb, h2⟩
    · by_cases hb : Region.binds .any e = true
      · rw [if_pos hb, Nat.testBit_or, Nat.testBit_or, Bool.or_eq_true, Bool.or_eq_true] at h1
        rcases h1 with (h1 | h1) | h1
        · exact .inl h1
        · rw [Nat.testBit_two_pow] at h1
          exact .inr ⟨e, List.mem_cons_self, hb, .inl (by simpa using h1)⟩
        · exact .inr ⟨e, List.mem_cons_self, hb, .inr h1⟩
      · rw [if_neg hb] at h1
        exact .inl h1
    · exact .inr ⟨e', List.mem_cons_of_mem _ he, hb, h2⟩

/-- The masks' law. -/
def MaskOK (ops : Array Oper) (acc : Array Nat) : Prop :=
  ∀ j, j < acc.size → ∀ i, (acc.getD j 0).testBit i = true → ∃ o, ops[j]? = some o ∧ ∃ e ∈ o.after, Region.binds .any e = true ∧ (e.on = i ∨ (e.on < j ∧ (acc.getD e.on 0).testBit i = true))
theorem masksFrom_ok : ∀ (l : List Oper) (acc : Array Nat), (∀ j, l[j]? = ops[acc.size + j]?) → MaskOK ops acc → MaskOK ops (masksFrom l acc)
  | [], _, _, h => h
  | o :: l, acc, hl, h => by
    unfold masksFrom
    refine masksFrom_ok l _ (fun j => by have := hl (j + 1); simpa [Nat.add_assoc, Nat.add_comm 1 j] using this) ?_
    intro j hj i hi
    have hge : ∀ m, m < acc.size → ∀ y, (acc.push y).getD m 0 = acc.getD m 0 := fun m hm y => by
      rw [Array.getD_eq_getD_getElem?, Array.getD_eq_getD_getElem?, Array.getElem?_push, if_neg (by omega)]
    rcases Nat.lt_or_ge j acc.size with hlt | hge'
    · rw [hge j hlt] at hi
      obtain ⟨o', ho', e, he, hb, h2⟩ := h j hlt i hi
      refine ⟨o', ho', e, he, hb, h2.imp id fun ⟨h3, h4⟩ => ⟨h3, ?_⟩⟩
      rw [hge e.on (by omega)]
      exact h4
    · have hje : j = acc.size := by rw [Array.size_push] at hj; omega
      subst hje
      rw [Array.getD_eq_getD_getElem?, Array.getElem?_push, if_pos rfl, Option.getD_some] at hi
      have ho : ops[acc.size]? = some o := by simpa using (hl 0).symm
      rcases fold_mask acc i _ 0 hi with h1 | ⟨e, he, hb, h2⟩
      · simp at h1
      · refine ⟨o, ho, e, by simpa using he, hb, h2.imp id fun h3 => ?_⟩
        have hlt : e.on < acc.size := by
          rcases Nat.lt_or_ge e.on acc.size with h' | h'
          · exact h'
          · rw [Array.getD_eq_getD_getElem?, Array.getElem?_eq_none h'] at h3
            simp at h3
        exact ⟨hlt, by rw [hge e.on hlt]; exact h3⟩

/-- All that those lean on that have come up has come up. -/
def Shut (ops : Array Oper) (listed : Array Bool) : Prop :=
  ∀ j o, ops[j]? = some o → listed.getD j false = true → ∀ e ∈ o.after, Region.binds .any e = true → listed.getD e.on false = true
theorem anc_listed {listed : Array Bool} (hs : Shut ops listed) {k i : Nat} (hk : ∀ o, ops[k]? = some o → ∀ e ∈ o.after, Region.binds .any e = true → listed.getD e.on false = true)
    (h : anc ops k i = true) : listed.getD i false = true := by
  have ok : MaskOK ops (masksFrom ops.toList #[]) := masksFrom_ok ops.toList #[] (fun j => by simp) (fun j hj => by simp at hj)
  unfold anc at h
  generalize masksFrom ops.toList #[] = M at ok h
  induction k using Nat.strongRecOn with
  | ind k ih =>
    have hlt : k < M.size := by
      rcases Nat.lt_or_ge k M.size with h' | h'
      · exact h'
      · rw [Array.getD_eq_getD_getElem?, Array.getElem?_eq_none h'] at h
        simp at h
    obtain ⟨o, ho, e, he, hb, h2⟩ := ok k hlt i h
    have h3 := hk o ho e he hb
    rcases h2 with rfl | ⟨h4, h5⟩
    · exact h3
    · exact ih e.on h4 (fun o' ho' => hs e.on o' ho' h3) h5

/-! ### Whatever order is picked -/
def gOp (P : Program) (ops : Array Oper) (S : Nat → Option GSpec) (w0 : World) (j : Nat) (f : Nat → World → Prop) (K : (Nat → World → Prop) → Act → Prop) (a : Act) : Prop :=
  match ops[j]? with
  | none => K f a
  | some o =>
    if Region.wanted o (yielded ops a.tmps) = true then
      match S j with
      | none => ∃ v, (∀ w, (execOp a.eval o).run P w = .ok (.value v) w) ∧ K f (a.put o.dst v)
      | some s => (∀ w, Class ops w0 f j w → Oper.growAt P o a s w) ∧ ∀ x, K (updF f j (s.F o a.eval x)) (a.put o.dst (s.val x))
    else K f (a.put o.dst undef)
def wpAnyG (P : Program) (ops : Array Oper) (S : Nat → Option GSpec) (w0 : World) (Q : Act → World → Prop) : Nat → Array Bool → (Nat → World → Prop) → Act → Prop
  | 0, listed, f, a => Region.ready .any ops listed = [] ∧ ∀ w, Ext w0 w → (∀ i, f i w) → Q a w
  | fuel + 1, listed, f, a =>
    (Region.ready .any ops listed = [] → ∀ w, Ext w0 w → (∀ i, f i w) → Q a w) ∧
    ∀ j ∈ Region.ready .any ops listed, gOp P ops S w0 j f (fun f' a' => wpAnyG P ops S w0 Q fuel (listed.setIfInBounds j true) f' a') a
theorem gOp_mono {j : Nat} {f : Nat → World → Prop} {a : Act} {K K' : (Nat → World → Prop) → Act → Prop} (h : ∀ f a, K f a → K' f a) (hh : gOp P ops S w0 j f K a) : gOp P ops S w0 j f K' a := by
  unfold gOp at *
  split
  · rename_i ho; simp only [ho] at hh; exact h _ _ hh
  · rename_i o ho
    simp only [ho] at hh
    split
    · rename_i hw
      simp only [hw, if_true] at hh
      split
      · rename_i hs; simp only [hs] at hh; obtain ⟨v, h1, h2⟩ := hh; exact ⟨v, h1, h _ _ h2⟩
      · rename_i s hs; simp only [hs] at hh; exact ⟨hh.1, fun x => h _ _ (hh.2 x)⟩
    · rename_i hw; simp only [hw] at hh; exact h _ _ hh

/-- In every real order: the facts hold as they come. -/
theorem wpAny_of_grow {Q : Act → World → Prop} {Q' : Exit → Act → World → Prop} (hQ : ∀ a w, Q a w → Q' .normal a w) : ∀ (fuel : Nat) (listed : Array Bool) (f : Nat → World → Prop) (a : Act) (w : World),
    Ext w0 w → (∀ i, f i w) → (∀ i w w', f i w → Ext w w' → f i w') → wpAnyG P ops S w0 Q fuel listed f a → wpAny P .any ops Q' fuel listed a w
  | 0, _, _, _, w, hw, hf, _, h => ⟨h.1, hQ _ _ (h.2 w hw hf)⟩
  | fuel + 1, listed, f, a, w, hw, hf, hk, h => by
    refine ⟨fun h0 => hQ _ _ (h.1 h0 w hw hf), fun j hj => ?_⟩
    have hg := h.2 j hj
    unfold gOp at hg
    unfold wpOp
    split
    · rename_i ho; simp only [ho] at hg
      exact wpAny_of_grow hQ fuel _ f a w hw hf hk hg
    · rename_i o ho
      simp only [ho] at hg
      split
      · rename_i hwn
        simp only [hwn, if_true] at hg
        left
        split at hg
        · obtain ⟨v, h1, h2⟩ := hg
          unfold Oper.wp
          rw [h1 w]
          simp only [Oper.upon]
          exact wpAny_of_grow hQ fuel _ f _ w hw hf hk h2
        · rename_i s hs
          have h1 := hg.1 w ⟨hw, fun i _ => hf i⟩
          have step : ∀ x w', s.F o a.eval x w' → Ext w w' → wpAny P .any ops Q' fuel (listed.setIfInBounds j true) (a.put o.dst (s.val x)) w' := fun x w' hF he =>
            wpAny_of_grow hQ fuel _ (updF f j (s.F o a.eval x)) _ w' (Ext.trans hw he) (fun i => by
              unfold updF; split
              · exact hF
              · exact hk i w w' (hf i) he) (fun i u u' => by
              unfold updF; split
              · exact fun h1 h2 => s.keep o a.eval x u u' h1 h2
              · exact hk i u u') (hg.2 x)
          unfold Oper.growAt at h1
          unfold Oper.wp
          generalize (execOp a.eval o).run P w = r at *
          cases r with
          | ok n w' =>
            cases n <;> simp only [Oper.growUpon] at h1 <;> simp only [Oper.upon]
            case value u =>
              obtain ⟨x, rfl, hF, he⟩ := h1
              exact step x _ hF he
            case skip =>
              obtain ⟨x, e, hF, he⟩ := h1
              rw [e]
              exact step x _ hF he
            case enter g args =>
              obtain ⟨rfl, hc⟩ := h1
              exact hc.mono fun e w'' ⟨x, he, hF, hx⟩ => by subst he; exact step x _ hF hx
          | halt x w' => simp only [Oper.growUpon] at h1
      · rename_i hwn
        simp only [hwn] at hg
        exact wpAny_of_grow hQ fuel _ f _ w hw hf hk hg

/-- What operation i yields, at state a, by its kind. -/
def GY (P : Program) (ops : Array Oper) (S : Nat → Option GSpec) (w0 : World) (i : Nat) (oi : Oper) (f : Nat → World → Prop) (a : Act) (K : (Nat → World → Prop) → Act → Prop) : Prop :=
  if Region.wanted oi (yielded ops a.tmps) = true then
    match S i with
    | none => ∃ v, (∀ w, (execOp a.eval oi).run P w = .ok (.value v) w) ∧ K f (a.put oi.dst v)
    | some s => (∀ w, Class ops w0 f i w → Oper.growAt P oi a s w) ∧ ∀ x, K (updF f i (s.F oi a.eval x)) (a.put oi.dst (s.val x))
  else K f (a.put oi.dst undef)

theorem updF_comm (f : Nat → World → Prop) {i j : Nat} (h : i ≠ j) (F G : World → Prop) : updF (updF f i F) j G = updF (updF f j G) i F := by
  funext k
  unfold updF
  by_cases h1 : k = j
  · subst h1; simp [Ne.symm h]
  · by_cases h2 : k = i
    · subst h2; simp [h]
    · simp [h1, h2]
theorem class_upd {f : Nat → World → Prop} {i j : Nat} {F : World → Prop} (h : anc ops j i = false) (w : World) : Class ops w0 (updF f i F) j w ↔ Class ops w0 f j w := by
  unfold Class
  refine and_congr_right fun _ => forall_congr' fun k => ?_
  by_cases hk : k = i
  · subst hk; rw [h]; simp
  · unfold updF; rw [if_neg hk]
theorem eval_eq {oi oj : Oper} {v : Value} (a : Act) (h : ∀ d, oi.dst = some d → d ∉ oj.looksAt ops) : ∀ x ∈ oj.op.operands, (a.put oi.dst v).eval x = a.eval x := fun x hx =>
  Act.eval_put fun d hd hxd => h d hd (by
    subst hxd
    exact List.mem_append_left _ (List.mem_filterMap.2 ⟨.tmp d, by simpa using hx, rfl⟩))

/-- **An operation that may come up now may be taken first.** -/
theorem wpAnyG_first {Q : Act → World → Prop} {i : Nat} {oi : Oper} (hi : ops[i]? = some oi) (hsel : ∀ (j : Nat) (o : Oper) cs b, ops[j]? = some o → o.op ≠ .select cs b) :
    ∀ (fuel : Nat) (listed : Array Bool) (f : Nat → World → Prop) (a : Act), Shut ops listed →
      (∀ j oj, ops[j]? = some oj → j ≠ i → listed.getD j true = false → (∀ e ∈ oj.after, Region.binds .any e = true → e.on ≠ i) → oi.apart ops oj = true) →
      i ∈ Region.ready .any ops listed → GY P ops S w0 i oi f a (fun f' a' => wpAnyG P ops S w0 Q fuel (listed.setIfInBounds i true) f' a') → wpAnyG P ops S w0 Q (fuel + 1) listed f a := by
  intro fuel
  induction fuel with
  | zero =>
    intro listed f a _ _ hr H
    refine ⟨fun h => (by rw [h] at hr; cases hr), fun j hj => ?_⟩
    by_cases hji : j = i
    · subst hji; unfold gOp; rw [hi]; exact H
    · exfalso
      have h1 := ready_mono hj hji
      have h2 : Region.ready .any ops (listed.setIfInBounds i true) = [] := by
        unfold GY at H
        split at H
        · split at H
          · obtain ⟨v, _, h3⟩ := H; exact h3.1
          · rename_i s _; exact (H.2 s.x0).1
        · exact H.1
      rw [h2] at h1
      cases h1
  | succ fuel ih =>
    intro listed f a hsh hfree hr H
    refine ⟨fun h => (by rw [h] at hr; cases hr), fun j hj => ?_⟩
    by_cases hji : j = i
    · subst hji; unfold gOp; rw [hi]; exact H
    obtain ⟨hjun, oj, hoj, hall⟩ := mem_ready.1 hj
    have hiun : listed.getD i false = false := by
      have h0 := (mem_ready.1 hr).1
      rcases Nat.lt_or_ge i listed.size with h' | h'
      · simp [h'] at h0 ⊢; exact h0
      · simp [Array.getElem?_eq_none h'] at h0
    have hjun' : listed.getD j false = false := by
      rcases Nat.lt_or_ge j listed.size with h' | h'
      · simp [h'] at hjun ⊢; exact hjun
      · simp [Array.getElem?_eq_none h'] at hjun
    have hnot : ∀ e ∈ oj.after, Region.binds .any e = true → e.on ≠ i := fun e he hb heq => by
      have h1 := hall e he hb
      rw [heq, hiun] at h1
      cases h1
    have hap := hfree j oj hoj hji hjun hnot
    obtain ⟨p1, p2, p3⟩ := Oper.apart_spec hap
    have hanc : anc ops j i = false := by
      cases h : anc ops j i
      · rfl
      · have := anc_listed hsh (fun o ho => by rw [hoj] at ho; cases ho; exact hall) h
        rw [hiun] at this
        cases this
    have hanc' : anc ops i j = false := by
      cases h : anc ops i j
      · rfl
      · obtain ⟨_, o', ho', hall'⟩ := mem_ready.1 hr
        have := anc_listed hsh (fun o ho => by rw [ho'] at ho; cases ho; exact hall') h
        rw [hjun'] at this
        cases this
    have hsh' : Shut ops (listed.setIfInBounds j true) := by
      intro m o ho hm e he hb
      by_cases hmj : j = m
      · subst hmj
        rw [hoj] at ho
        cases ho
        exact getD_set_true (hall e he hb)
      · rw [getD_set_ne false hmj] at hm
        exact getD_set_true (hsh m o ho hm e he hb)
    have hfree' : ∀ k ok, ops[k]? = some ok → k ≠ i → (listed.setIfInBounds j true).getD k true = false →
        (∀ e ∈ ok.after, Region.binds .any e = true → e.on ≠ i) → oi.apart ops ok = true := fun k ok hk hki hun hno => by
      refine hfree k ok hk hki ?_ hno
      by_cases hjk : j = k
      · subst hjk; exact hjun
      · rw [getD_set_ne true hjk] at hun; exact hun
    have hset : (listed.setIfInBounds i true).setIfInBounds j true = (listed.setIfInBounds j true).setIfInBounds i true := Array.setIfInBounds_comm _ _ (Ne.symm hji)
    -- operation i, behind whatever j has put
    have wi : ∀ u, Region.wanted oi (yielded ops (a.put oj.dst u).tmps) = Region.wanted oi (yielded ops a.tmps) := fun u => wanted_put oi a oj.dst u p3
    have xi : ∀ u, execOp (a.put oj.dst u).eval oi = execOp a.eval oi := fun u => execOp_put oi (fun cs b => hsel i oi cs b hi) a oj.dst u p3
    have wj : ∀ v, Region.wanted oj (yielded ops (a.put oi.dst v).tmps) = Region.wanted oj (yielded ops a.tmps) := fun v => wanted_put oj a oi.dst v p1
    have xj : ∀ v, execOp (a.put oi.dst v).eval oj = execOp a.eval oj := fun v => execOp_put oj (fun cs b => hsel j oj cs b hoj) a oi.dst v p1
    have fi : ∀ (s : GSpec) u x, s.F oi (a.put oj.dst u).eval x = s.F oi a.eval x := fun s u x => congrFun (s.loc oi _ _ (eval_eq a p3)) x
    have fj : ∀ (s : GSpec) v x, s.F oj (a.put oi.dst v).eval x = s.F oj a.eval x := fun s v x => congrFun (s.loc oj _ _ (eval_eq a p1)) x
    have rj : j ∈ Region.ready .any ops (listed.setIfInBounds i true) := ready_mono hj hji
    have ri : i ∈ Region.ready .any ops (listed.setIfInBounds j true) := ready_mono hr (Ne.symm hji)
    -- what is left to do behind j: i, and all the rest
    unfold gOp
    rw [hoj]
    simp only
    -- the ways of i
    by_cases hwi : Region.wanted oi (yielded ops a.tmps) = true
    · cases hsi : S i with
      | none =>
        unfold GY at H
        rw [if_pos hwi] at H
        simp only [hsi] at H
        obtain ⟨v, hv, H⟩ := H
        have Hj := H.2 j rj
        unfold gOp at Hj
        rw [hoj] at Hj
        simp only [wj] at Hj
        have back : ∀ f' u, wpAnyG P ops S w0 Q fuel ((listed.setIfInBounds i true).setIfInBounds j true) f' ((a.put oi.dst v).put oj.dst u) → wpAnyG P ops S w0 Q (fuel + 1) (listed.setIfInBounds j true) f' (a.put oj.dst u) := fun f' u hh => by
          refine ih _ _ _ hsh' hfree' ri ?_
          unfold GY
          rw [wi, if_pos hwi]
          simp only [hsi]
          refine ⟨v, fun w => by rw [xi]; exact hv w, ?_⟩
          rw [← Act.put_comm a v u p2, ← hset]
          exact hh
        split
        · rename_i hwj
          rw [if_pos hwj] at Hj
          split
          · rename_i hsj
            simp only [hsj] at Hj
            obtain ⟨u, hu, Hj⟩ := Hj
            exact ⟨u, fun w => by rw [← xj v]; exact hu w, back _ _ Hj⟩
          · rename_i s hsj
            simp only [hsj] at Hj
            refine ⟨fun w hc => ?_, fun x => back _ _ ?_⟩
            · have := Hj.1 w hc
              unfold Oper.growAt at *
              rw [xj] at this
              unfold Oper.growUpon at *
              simp only [fj] at this
              exact this
            · have := Hj.2 x
              rw [fj] at this
              exact this
        · rename_i hwj
          rw [if_neg hwj] at Hj
          exact back _ _ Hj
      | some s =>
        unfold GY at H
        rw [if_pos hwi] at H
        simp only [hsi] at H
        obtain ⟨hv, H⟩ := H
        have back : ∀ f' u, (∀ x, wpAnyG P ops S w0 Q fuel ((listed.setIfInBounds i true).setIfInBounds j true) (updF f' i (s.F oi a.eval x)) ((a.put oi.dst (s.val x)).put oj.dst u)) →
            (∀ w, Class ops w0 f' i w → Class ops w0 f i w) → wpAnyG P ops S w0 Q (fuel + 1) (listed.setIfInBounds j true) f' (a.put oj.dst u) := fun f' u hh hcl => by
          refine ih _ _ _ hsh' hfree' ri ?_
          unfold GY
          rw [wi, if_pos hwi]
          simp only [hsi]
          refine ⟨fun w hc => ?_, fun x => ?_⟩
          · have := hv w (hcl w hc)
            unfold Oper.growAt at *
            rw [xi]
            unfold Oper.growUpon at *
            simp only [fi]
            exact this
          · rw [fi, ← Act.put_comm a _ u p2, ← hset]
            exact hh x
        have Hj : ∀ x, _ := fun x => (H x).2 j rj
        unfold gOp at Hj
        simp only [hoj, wj] at Hj
        split
        · rename_i hwj
          simp only [hwj, if_true] at Hj
          split
          · rename_i hsj
            simp only [hsj] at Hj
            obtain ⟨u, hu, _⟩ := Hj s.x0
            refine ⟨u, fun w => by rw [← xj (s.val s.x0)]; exact hu w, back _ _ (fun x => ?_) (fun w h => h)⟩
            obtain ⟨u', hu', Hx⟩ := Hj x
            have e : u' = u := by
              have h1 := hu' w0
              have h2 := hu w0
              rw [xj] at h1 h2
              rw [h1] at h2
              injection h2 with h2
              injection h2
            subst e
            exact Hx
          · rename_i t hsj
            simp only [hsj] at Hj
            refine ⟨fun w hc => ?_, fun y => back _ _ (fun x => ?_) (fun w h => (class_upd hanc' w).1 h)⟩
            · have := (Hj s.x0).1 w ((class_upd hanc w).2 hc)
              unfold Oper.growAt at *
              rw [xj] at this
              unfold Oper.growUpon at *
              simp only [fj] at this
              exact this
            · have := (Hj x).2 y
              rw [fj, updF_comm _ (Ne.symm hji)] at this
              exact this
        · rename_i hwj
          simp only [hwj] at Hj
          exact back _ _ Hj (fun w h => h)
    · unfold GY at H
      rw [if_neg hwi] at H
      have Hj := H.2 j rj
      unfold gOp at Hj
      rw [hoj] at Hj
      simp only [wj] at Hj
      have back : ∀ f' u, wpAnyG P ops S w0 Q fuel ((listed.setIfInBounds i true).setIfInBounds j true) f' ((a.put oi.dst undef).put oj.dst u) → wpAnyG P ops S w0 Q (fuel + 1) (listed.setIfInBounds j true) f' (a.put oj.dst u) := fun f' u hh => by
        refine ih _ _ _ hsh' hfree' ri ?_
        unfold GY
        rw [wi, if_neg hwi]
        rw [← Act.put_comm a undef u p2, ← hset]
        exact hh
      split
      · rename_i hwj
        rw [if_pos hwj] at Hj
        split
        · rename_i hsj
          simp only [hsj] at Hj
          obtain ⟨u, hu, Hj⟩ := Hj
          exact ⟨u, fun w => by rw [← xj undef]; exact hu w, back _ _ Hj⟩
        · rename_i s hsj
          simp only [hsj] at Hj
          refine ⟨fun w hc => ?_, fun x => back _ _ ?_⟩
          · have := Hj.1 w hc
            unfold Oper.growAt at *
            rw [xj] at this
            unfold Oper.growUpon at *
            simp only [fj] at this
            exact this
          · have := Hj.2 x
            rw [fj] at this
            exact this
      · rename_i hwj
        rw [if_neg hwj] at Hj
        exact back _ _ Hj

theorem shut_set {listed : Array Bool} {i : Nat} (hs : Shut ops listed) (hr : i ∈ Region.ready .any ops listed) : Shut ops (listed.setIfInBounds i true) := by
  intro m o ho hm e he hb
  by_cases hmj : i = m
  · subst hmj
    obtain ⟨_, o', ho', hall⟩ := mem_ready.1 hr
    rw [ho'] at ho
    cases ho
    exact getD_set_true (hall e he hb)
  · rw [getD_set_ne false hmj] at hm
    exact getD_set_true (hs m o ho hm e he hb)

theorem wpAnyG_lex {Q : Act → World → Prop} (hs : Region.noSelect ops = true) : ∀ (l : List Oper) (k : Nat) (listed : Array Bool) (f : Nat → World → Prop) (a : Act), (∀ j, l[j]? = ops[k + j]?) → Shut ops listed →
    Region.lexFrom .any ops l.length k listed = true → wpGrow P ops S w0 Q k l f a → wpAnyG P ops S w0 Q l.length listed f a
  | [], _, _, _, _, _, _, hB, h => ⟨by simpa [Region.lexFrom] using hB, by unfold wpGrow at h; exact h⟩
  | o :: l, k, listed, f, a, hl, hsh, hB, h => by
    have h0 : ops[k]? = some o := by simpa using (hl 0).symm
    simp only [List.length_cons, Region.lexFrom, Bool.and_eq_true] at hB
    obtain ⟨⟨hr, hf⟩, hB'⟩ := hB
    have hr' : k ∈ Region.ready .any ops listed := by simpa using hr
    have next : ∀ f' a', wpGrow P ops S w0 Q (k + 1) l f' a' → wpAnyG P ops S w0 Q l.length (listed.setIfInBounds k true) f' a' := fun f' a' =>
      wpAnyG_lex hs l (k + 1) _ _ _ (fun j => by have := hl (j + 1); simpa [Nat.add_assoc, Nat.add_comm 1 j] using this) (shut_set hsh hr') hB'
    refine wpAnyG_first h0 (Region.noSelect_spec hs) l.length listed f a hsh (Region.free_spec h0 hf) hr' ?_
    unfold wpGrow at h
    unfold GY
    split
    · rename_i hw
      rw [if_pos hw] at h
      split
      · rename_i hsk
        simp only [hsk] at h
        obtain ⟨v, h1, h2⟩ := h
        exact ⟨v, h1, next _ _ h2⟩
      · rename_i s hsk
        simp only [hsk] at h
        exact ⟨h.1, fun x => next _ _ (h.2 x)⟩
    · rename_i hw
      rw [if_neg hw] at h
      exact next _ _ h

/-- **ONE WALK IN THE ORDER OF THE TEXT SERVES EVERY ORDER.** -/
theorem wp_region_grow0 {id : Nat} {Q : Exit → Act → World → Prop} {a : Act} {w : World} {l : List Oper} (S : Nat → Option GSpec) (hm : P.follows .mixedOrders = true) (hB : Region.lexB .any l.toArray = true)
    (h : wpGrow P l.toArray S w (fun a' w' => Q .normal a' w') 0 l (fun _ _ => True) a) : (Code.region id l.toArray true).wp P Q a w := by
  simp only [Region.lexB, Bool.and_eq_true] at hB
  refine wp_region_any hm (wpAny_of_grow (S := S) (w0 := w) (Q := fun a' w' => Q .normal a' w') (fun _ _ h => h) _ _ (fun _ _ => True) _ _ ⟨rfl, rfl, rfl, Nat.le_refl _, fun _ _ => rfl⟩ (fun _ => trivial) (fun _ _ _ _ _ => trivial) ?_)
  have := wpAnyG_lex (P := P) (S := S) (w0 := w) (Q := fun a' w' => Q .normal a' w') hB.1 l 0 (Array.replicate l.toArray.size false) (fun _ _ => True) a (by simp)
    (by intro j o _ hj; exfalso; simp [Array.getElem?_replicate] at hj; split at hj <;> simp at hj) (by simpa using hB.2) h
  simpa using this
end
/-! ### The same, each goal behind a structure: else a term that is checked against a goal of the walk may run it -/
structure Held (p : Prop) : Prop where
  out : p
section
variable {P : Program} {ops : Array Oper} {S : Nat → Option GSpec} {w0 : World}
theorem wpGrow_pure {Q : Act → World → Prop} {k : Nat} {o : Oper} {rest : List Oper} {f : Nat → World → Prop} {a : Act} (h0 : S k = none)
    (h : ∀ K : Act → Prop, Hid (∀ a, Held (wpGrow P ops S w0 Q (k + 1) rest f a) → K a) →
      if Region.wanted o (yielded ops a.tmps) = true then (∃ v, (∀ w, (execOp a.eval o).run P w = .ok (.value v) w) ∧ K (a.put o.dst v)) else K (a.put o.dst undef)) :
    Held (wpGrow P ops S w0 Q k (o :: rest) f a) := ⟨wpGrow_pure0 h0 fun K hK => h K fun a h => hK a h.out⟩
theorem wpGrow_eff {Q : Act → World → Prop} {k : Nat} {o : Oper} {rest : List Oper} {f : Nat → World → Prop} {a : Act} (s : GSpec) (h0 : S k = some s)
    (h1 : ∀ w, Ext w0 w → Hid (∀ i, anc ops k i = true → f i w) → Oper.growAt P o a s w)
    (h2 : ∀ (x : s.X) (K : Act → Prop), Hid (∀ a', Held (wpGrow P ops S w0 Q (k + 1) rest (updF f k (s.F o a.eval x)) a') → K a') → K (a.put o.dst (s.val x)))
    (hw : Region.wanted o (yielded ops a.tmps) = true) : Held (wpGrow P ops S w0 Q k (o :: rest) f a) :=
  ⟨wpGrow_eff0 s h0 h1 (fun x K hK => h2 x K fun a h => hK a h.out) hw⟩
theorem wpGrow_skip {Q : Act → World → Prop} {k : Nat} {o : Oper} {rest : List Oper} {f : Nat → World → Prop} {a : Act} (hw : Region.wanted o (yielded ops a.tmps) = false)
    (h : ∀ K : Act → Prop, Hid (∀ a, Held (wpGrow P ops S w0 Q (k + 1) rest f a) → K a) → K (a.put o.dst undef)) :
    Held (wpGrow P ops S w0 Q k (o :: rest) f a) := ⟨wpGrow_skip0 hw fun K hK => h K fun a h => hK a h.out⟩
theorem wpGrow_nil {Q : Act → World → Prop} {k : Nat} {f : Nat → World → Prop} {a : Act} (h : ∀ w, Ext w0 w → Hid (∀ i, f i w) → Q a w) : Held (wpGrow P ops S w0 Q k [] f a) := ⟨wpGrow_nil0 h⟩
end
theorem wp_region_grow {P : Program} {id : Nat} {Q : Exit → Act → World → Prop} {a : Act} {w : World} {l : List Oper} (S : Nat → Option GSpec) (hm : P.follows .mixedOrders = true) (hB : Region.lexB .any l.toArray = true)
    (h : Held (wpGrow P l.toArray S w (fun a' w' => Q .normal a' w') 0 l (fun _ _ => True) a)) : (Code.region id l.toArray true).wp P Q a w := wp_region_grow0 S hm hB h.out
end Go.Proofs.Ytmobgamlednlhaa
