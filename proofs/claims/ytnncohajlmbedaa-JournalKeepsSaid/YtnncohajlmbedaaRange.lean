/-
  A range over a function whose rounds all go on. The iterator tells, of each thing that it hands over, what lies in memory (X); the loop's invariant may lean on it. No function of the program in sight.
-/
import Derived.Test.YtnncohajlmbedaaAppend
import Derived.RangeFuncFrom
import Derived.RangeFuncLeaves
namespace Go.Proofs.Ytnncohajlmbedaa
open Go.RowKit

/-- B is A, but for new blocks, and for what is no cells, from block n on. -/
structure Calm (n : Nat) (A B : World) : Prop where
  below : Below n A B
  cells : ∀ (k : Nat) (o : Obj), A.heap[k]? = some o → o.isCells = true → B.heap[k]? = some o
theorem Calm.trans {n : Nat} {A B C : World} (h : Calm n A B) (k : Calm n B C) : Calm n A C := ⟨h.below.trans k.below, fun i o hi ho => k.cells i o (h.cells i o hi ho) ho⟩
theorem Calm.ext {n : Nat} {A B : World} (h : Below A.heap.size A B) (hn : n ≤ A.heap.size) : Calm n A B :=
  ⟨h.mono hn, fun k _ hk _ => (h.block k (Array.getElem?_eq_some_iff.1 hk).1).trans hk⟩
theorem Calm.put {n l : Nat} {A : World} {o : Obj} (o' : Obj) (hn : n ≤ l) (hl : A.heap[l]? = some o) (ho : o.isCells = false) : Calm n A (A.putObj l o') := by
  have hlt : l < A.heap.size := (Array.getElem?_eq_some_iff.1 hl).1
  refine ⟨(Below.refl n A).grown (grownBy_putObj' A l o') (by omega) (fun k e => by cases e; exact hn), fun k p hk hp => ?_⟩
  refine (World.putObj_heap_other fun e => ?_).trans hk
  subst e
  rw [hl] at hk
  cases hk
  rw [ho] at hp
  cases hp
theorem Whole.calm {n g : Nat} {t : TypeId} {cs : Array Value} {A B : World} (h : Whole A g t cs) (k : Calm n A B) : Whole B g t cs := k.cells g _ h rfl
theorem own_calm {n base s m : Nat} {e : TypeId} {v : Value} {xs : List Value} {A B : World} (h : A.ownsRow base e s v m xs) (k : Calm n A B) : B.ownsRow base e s v m xs :=
  ⟨h.1, h.2.imp id fun ⟨g, cap, cur, hv, hg, hh, hr⟩ => ⟨g, cap, cur, hv, hg, k.cells g _ hh rfl, hr⟩⟩
theorem Rd.calm {n B s m : Nat} {A : Option Addr} {xs : List Value} {w w' : World} (h : Rd w B s A m xs) (k : Below n w w') (hn : B ≤ n) : Rd w' B s A m xs := h.below (k.mono hn)

/-- What the iterator gf (with what it has captured) does to a yield that goes on: it hands over things xs, S of them, each told of by X in the world where it is handed over; between two rounds what Kp says stays. -/
def SeqM {α : Type} (P : Program) (n gf : Nat) (lb : Array Value) (encs : α → Array Value) (Kp : World → World → Prop) (X : List α → α → World → Prop) (S : List α → Prop) (w : World) : Prop :=
  ∀ (l : Nat) (J : List α → World → Prop) (W : World), Below w.heap.size w W →
    (∀ s A B, J s A → Below A.heap.size A B → J s B) →
    (∀ pre x W1, J pre W1 → X pre x W1 → YieldAt Fence.wide (n - 1) P l (encs x) W1 fun e W' => e = .returned (.bool true) ∧ J (pre ++ [x]) W' ∧ Kp W1 W') →
    J [] W →
    CallsIn Fence.wide n P gf (#[.func (.yield l) #[] #[]] ++ lb) W fun e W' => (∃ v, e = .returned v) ∧ ∃ xs, S xs ∧ J xs W'

theorem range_mem {α : Type} {P : Program} {n : Nat} {g : Operand} {ps : Array Tmp} {assign body : Code} {Q : Exit → Act → World → Prop} {a : Act} {w w0 : World} {gf : Nat} {lb : Array Value}
    (hg : a.eval g = .func (.func gf) #[] lb) (eg : ∀ args w, (callFunc gf args).run P w = .ok (.enter gf args) w)
    {encs : α → Array Value} {Kp : World → World → Prop} {X : List α → α → World → Prop} {S : List α → Prop} (hseq : SeqM P (n - 1) gf lb encs Kp X S w0) (hb0 : Below w0.heap.size w0 w) (hKt : ∀ A B C, Kp A B → Kp B C → Kp A C) (hKc : ∀ A B, Calm w.heap.size A B → Kp A B) (hps : ∀ x, (encs x).size = ps.size)
    (I : List α → World → Prop) (Mid : List α → α → Act → World → Prop) (hI : ∀ s A B, I s A → Calm w.heap.size A B → I s B) (hM : ∀ s x b A B, Mid s x b A → Calm w.heap.size A B → Mid s x b B) (h0 : I [] w)
    (hassign : ∀ (l : Nat) (pre : List α) (x : α) (W : World), I pre W → X pre x W →
      assign.wpIn (Fence.wide.inRound l) (n - 1 - 1) P (Exit.then (fun b W1 => Mid pre x b W1 ∧ KeepsOthers W W1 ∧ Kp W W1) (fun _ _ _ => False)) { tmps := (ps.zip (encs x)).foldl (fun t (p, v) => t.setIfInBounds p v) a.tmps, defers := [] } W)
    (hbody : ∀ (l : Nat) (pre : List α) (x : α) (b : Act) (W : World), Mid pre x b W →
      body.wpIn (Fence.wide.inRound l) (n - 1 - 1) P (Exit.then (fun _ W' => KeepsOthers W W' ∧ Kp W W' ∧ I (pre ++ [x]) W') (fun _ _ _ => False)) b W)
    (hdone : ∀ (D : Nat) (xs : List α) (W : World), w.heap.size ≤ D → S xs → I xs W → W.heap[D]? = some (.deferred (some [])) → Q .normal { a with defers := { target := .collected D, args := #[] } :: a.defers } W) :
    (Code.rangeFunc g ps assign body).wpIn Fence.wide n P Q a w := by
  refine wpIn_rangeFunc fun fn hfn => ?_
  generalize hr0 : ({ state := .ready, pending := none, fn := fn, tmps := a.tmps, params := ps, assign := assign, body := body, defers := w.heap.size } : Loop) = r0
  have hpar : r0.params = ps := by rw [← hr0]
  have hrdy : r0.state = .ready := by rw [← hr0]
  have hpen : r0.pending = none := by rw [← hr0]
  have hfun : r0.fn = fn := by rw [← hr0]
  have htmp : r0.tmps = a.tmps := by rw [← hr0]
  have hass : r0.assign = assign := by rw [← hr0]
  have hbod : r0.body = body := by rw [← hr0]
  generalize hW1 : (w.alloc (.deferred (some []))).alloc (.loop r0) = W1
  have b1 : Below w.heap.size w W1 := by rw [← hW1]; exact ((Below.refl _ w).alloc (Nat.le_refl _) _).alloc (by simp) _
  have l1 : W1.heap[w.heap.size + 1]? = some (.loop r0) := by
    rw [← hW1]
    have := World.alloc_heap_new (w.alloc (.deferred (some []))) (.loop r0)
    rwa [World.size_alloc] at this
  have d1 : W1.heap[w.heap.size]? = some (.deferred (some [])) := by
    rw [← hW1]
    exact (Below.heap_alloc _ _ _ (by simp)).trans (World.alloc_heap_new w _)
  refine ⟨w.heap.size + 1, [{ target := .collected w.heap.size, args := #[] }], W1, { target := .fn (.func gf) lb, args := #[.func (.yield (w.heap.size + 1)) #[] #[]] }, W1, gf, #[.func (.yield (w.heap.size + 1)) #[] #[]] ++ lb, W1, ?_, ?_, fun _ _ => trivial, ?_, (fun h => by cases h), ?_⟩
  · rw [← hW1, ← hr0]
    exact run_enterLoop_outer _ _ _ _ _
  · simp only [resolve, hg]
    simp [go_sem]
  · simp [invoke, go_sem, eg]
  refine (hseq (w.heap.size + 1) (fun pre W => I pre W ∧ W.heap[w.heap.size + 1]? = some (.loop r0) ∧ W.heap[w.heap.size]? = some (.deferred (some [])) ∧ w.heap.size ≤ W.heap.size) W1 (hb0.trans (b1.mono hb0.size)) ?_ ?_ ⟨hI _ _ _ h0 (Calm.ext b1 (Nat.le_refl _)), l1, d1, b1.size⟩).mono ?_
  · rintro s A B ⟨hi, hl, hd, hz⟩ hx
    exact ⟨hI _ _ _ hi (Calm.ext hx hz), (hx.block _ (Array.getElem?_eq_some_iff.1 hl).1).trans hl, (hx.block _ (Array.getElem?_eq_some_iff.1 hd).1).trans hd, Nat.le_trans hz hx.size⟩
  · rintro pre x W ⟨hi, hl, hd, hz⟩ hx
    have hy := run_yield (P := P) (args := encs x) hl (by rw [hpar]; exact hps x)
    rw [hfun, hpar, htmp, hass, hbod] at hy
    refine ⟨fn, _, assign, body, hy, roundIn_of_wpIn hfn (wpIn_mono (hassign (w.heap.size + 1) pre x W hi hx) ?_)⟩
    intro e b W2 hp
    cases e with
    | normal =>
      obtain ⟨hm, hk, hbl⟩ := hp
      have l2 := hk.same _ _ hl rfl
      have d2 := hk.same _ _ hd rfl
      refine ⟨_, run_beginRound l2 hrdy, ?_⟩
      generalize hb2 : ({ r0 with state := .busy } : Loop) = r2
      have hlt : w.heap.size + 1 < W2.heap.size := (Array.getElem?_eq_some_iff.1 l2).1
      have c3 : Calm w.heap.size W2 (W2.putObj (w.heap.size + 1) (.loop r2)) := Calm.put _ (by omega) l2 rfl
      have l3 : (W2.putObj (w.heap.size + 1) (.loop r2)).heap[w.heap.size + 1]? = some (.loop r2) := World.putObj_heap_same hlt
      have d3 : (W2.putObj (w.heap.size + 1) (.loop r2)).heap[w.heap.size]? = some (.deferred (some [])) := (World.putObj_heap_other (by omega)).trans d2
      refine wpIn_mono (hbody (w.heap.size + 1) pre x b _ (hM _ _ _ _ _ hm c3)) ?_
      intro e b4 W4 hq
      cases e with
      | normal =>
        obtain ⟨hk4, hbl4, hi4⟩ := hq
        have l4 := hk4.same _ _ l3 rfl
        have d4 := hk4.same _ _ d3 rfl
        have hlt4 : w.heap.size + 1 < W4.heap.size := (Array.getElem?_eq_some_iff.1 l4).1
        have hend := run_endRound (P := P) none l4
        have hback : ({ r2 with state := if (none : Option Code).isNone then .ready else .done, pending := none } : Loop) = r0 := by rw [← hb2, ← hr0]; rfl
        rw [hback] at hend
        have c5 : Calm w.heap.size W4 (W4.putObj (w.heap.size + 1) (.loop r0)) := Calm.put _ (by omega) l4 rfl
        exact ⟨_, _, hend, rfl, ⟨hI _ _ _ hi4 c5, World.putObj_heap_same hlt4, (World.putObj_heap_other (by omega)).trans d4, by have := c5.below.size; omega⟩, hKt _ _ _ hbl (hKt _ _ _ (hKc _ _ c3) (hKt _ _ _ hbl4 (hKc _ _ c5)))⟩
      | ret => exact hq.elim
      | exit id => exact hq.elim
      | goto t => exact hq.elim
      | panic ch => exact hq.elim
      | outgrown => exact hq.elim
    | ret => exact hp.elim
    | exit id => exact hp.elim
    | goto t => exact hp.elim
    | panic ch => exact hp.elim
    | outgrown => exact hp.elim
  · rintro e W2 ⟨⟨v, rfl⟩, xs, hS, hi, hl, hd, hz⟩
    have hend := run_endLoop (P := P) hl (by rw [hrdy]; simp)
    rw [hpen] at hend
    have hlt : w.heap.size + 1 < W2.heap.size := (Array.getElem?_eq_some_iff.1 hl).1
    exact ⟨none, _, hend, hdone _ xs _ (Nat.le_refl _) hS (hI _ _ _ hi (Calm.put _ (by omega) hl rfl)) ((World.putObj_heap_other (by omega)).trans hd)⟩
end Go.Proofs.Ytnncohajlmbedaa
