/-
  Regions: the nil check of a method value behind an interface; a new variable; two blocks that may change. No function of the program in sight.
-/
import Derived.Test.YtmobgamlednlhaaGrowTail
import Derived.Test.YtmobgamlednlhaaGrowSep
namespace Go.Proofs.Ytmobgamlednlhaa
open Go.RowKit
theorem exec_nilm {P : Program} {o : Oper} {x : Operand} {ρ : Operand → Value} (hop : o.op = .nilCheck x) {nm : String} {first captured : Array Value} {T : TypeId} {v : Value}
    (hx : ρ x = .func (.method nm) first captured) (h0 : first[0]? = some (.iface T v)) (w : World) (hn : (nilAhead (P.types.size + Made.depth) T v nm).run P w = .ok (some false) w) :
    (execOp ρ o).run P w = .ok (.value (.func (.method nm) first captured)) w := by
  unfold Made.depth at hn
  unfold execOp
  simp only [hop, hx, h0, Sem.run_bind]
  simp [go_sem, hn]
theorem wpGrow_nilm {P : Program} {ops : Array Oper} {S : Nat → Option GSpec} {w0 : World} {Q : Act → World → Prop} {k : Nat} {o : Oper} {rest : List Oper} {f : Nat → World → Prop} {a : Act} (s0 : S k = none) (hg : o.guard = none)
    {x : Operand} (hop : o.op = .nilCheck x) {nm : String} {first captured : Array Value} {T : TypeId} {v : Value}
    (hx : a.eval x = .func (.method nm) first captured) (h0 : first[0]? = some (.iface T v)) (hn : ∀ w, (nilAhead (P.types.size + Made.depth) T v nm).run P w = .ok (some false) w)
    (h : ∀ K : Act → Prop, Hid (∀ a, Held (wpGrow P ops S w0 Q (k + 1) rest f a) → K a) → K (a.put o.dst (.func (.method nm) first captured))) :
    Held (wpGrow P ops S w0 Q k (o :: rest) f a) := by
  refine wpGrow_pure s0 fun K hK => ?_
  have hw : Region.wanted o (yielded ops a.tmps) = true := by simp [Region.wanted, hg]
  rw [if_pos hw]
  exact ⟨_, fun w => exec_nilm hop hx h0 w (hn w), h K hK⟩
/-- A new variable. -/
def GSpec.box (base : Nat) (E : TypeId) (cs : Array Value) : GSpec :=
  ⟨Nat, 0, fun g => .pointer (some ⟨g, 0, none⟩), fun _ _ g w => base ≤ g ∧ Whole w g E cs, fun _ _ _ _ => rfl, fun _ _ _ _ _ h k => ⟨h.1, h.2.below k h.2.lt⟩⟩
/-- Of the memory below T only two blocks have changed. -/
structure Fix (T gr gt : Nat) (w w' : World) : Prop where
  os : w'.os = w.os
  tape : w'.tape = w.tape
  output : w'.output = w.output
  size : w.heap.size ≤ w'.heap.size
  block : ∀ k, k < T → k ≠ gr → k ≠ gt → w'.heap[k]? = w.heap[k]?
theorem Fix.refl (T gr gt : Nat) (w : World) : Fix T gr gt w w := ⟨rfl, rfl, rfl, Nat.le_refl _, fun _ _ _ _ => rfl⟩
theorem Fix.trans {T gr gt : Nat} {a b c : World} (h : Fix T gr gt a b) (k : Fix T gr gt b c) : Fix T gr gt a c :=
  ⟨k.os.trans h.os, k.tape.trans h.tape, k.output.trans h.output, Nat.le_trans h.size k.size, fun q h1 h2 h3 => (k.block q h1 h2 h3).trans (h.block q h1 h2 h3)⟩
theorem Fix.of_below {T gr gt : Nat} {a b : World} (h : Below a.heap.size a b) (hT : T ≤ a.heap.size) : Fix T gr gt a b := ⟨h.os, h.tape, h.output, h.size, fun k hk _ _ => h.block k (by omega)⟩
theorem Fix.cell {T gr gt : Nat} {a b : World} (h : Fix T gr gt a b) {p : Addr} (h1 : p.block < T) (h2 : p.block ≠ gr) (h3 : p.block ≠ gt) : b.cell? p = a.cell? p := World.cell?_of_block (h.block _ h1 h2 h3)
end Go.Proofs.Ytmobgamlednlhaa
