/-
  Records in memory: loaded, stored, compared; the map of kinds looked up in a region that draws its order.
-/
import Derived.Test.YtmobgamlednlhaaRecReader
import Derived.Test.YtmobgamlednlhaaUndef
import Derived.Laws.Tables
namespace Go.Proofs.Ytmobgamlednlhaa
open Go.RowKit
section
variable {P : Program} {w : World}
theorem growAt_lookup {o : Oper} {a : Act} {s : GSpec} {t : TypeId} {m k : Operand} {ok : Bool} (ho : o.op = .lookup t m k ok) {vm vk : Value} (hm : a.eval m = vm) (hk : a.eval k = vk) {u : Value} (hrun : (Instr.lookup t vm vk ok).run P w = .ok u w)
    (hF : ∃ x, u = s.val x ∧ s.F o a.eval x w) : Oper.growAt P o a s w := by
  unfold Oper.growAt Oper.growUpon execOp
  simp only [ho, hm, hk, Sem.run_bind, hrun, Result.andThen_ok, Sem.run_pure]
  obtain ⟨x, h1, h2⟩ := hF
  exact ⟨x, h1, h2, Below.refl _ _⟩
theorem growAt_load_row {o : Oper} {a : Act} {ty : TypeId} {x : Operand} (ho : o.op = .load ty x) {g : Nat} (hx : a.eval x = .pointer (some ⟨g, 0, none⟩)) {t : TypeId} {cs : Array Value} (hg : Whole w g t cs) {d : TypeDesc}
    (hu : P.underlying ty = some d) (hd : (match d with | .struct _ | .array _ _ => true | _ => false) = true) (hi : (P.info? ty).map (·.size) = some cs.size) : Oper.growAt P o a (.fix (.agg cs)) w := by
  unfold Oper.growAt Oper.growUpon execOp
  simp only [ho, hx, Instr.loadAt, Instr.sureAddr, Sem.run_bind, Sem.run_pure, Result.andThen_ok, run_loadVar_row w g t ty cs (0, 0) d hg hu hd hi]
  exact ⟨(), rfl, trivial, Below.refl _ _⟩
theorem wpList_load_rowg {ops : Array Oper} {rest : List Oper} {o : Oper} {a : Act} {Q : Exit → Act → World → Prop} (hwn : Region.wanted o (yielded ops a.tmps) = true) (ty : TypeId) (x : Operand) (ho : o.op = .load ty x)
    (g : Nat) (hx : a.eval x = .pointer (some ⟨g, 0, none⟩)) (t : TypeId) (cs : Array Value) (d : TypeDesc) (hg : Whole w g t cs)
    (hu : P.underlying ty = some d) (hd : (match d with | .struct _ | .array _ _ => true | _ => false) = true) (hi : (P.info? ty).map (·.size) = some cs.size)
    (h : wpList P ops Q rest (a.put o.dst (.agg cs)) w) : wpList P ops Q (o :: rest) a w :=
  wpList_step fun _ hK => by
    rw [if_pos hwn]
    exact wp_load_row ty x ho g hx t cs (0, 0) d hg hu hd hi (hK _ _ h)
end
theorem Whole.row {w : World} {g : Nat} {t : TypeId} {cs : Array Value} (h : Whole w g t cs) (cs' : Array Value) : Whole (w.setRow g cs') g t cs' := setRow_heap w g cs cs' t (0, 0) h
theorem Whole.row_far {w : World} {g k : Nat} {t : TypeId} {cs : Array Value} (h : Whole w g t cs) (hk : g ≠ k) (cs' : Array Value) : Whole (w.setRow k cs') g t cs := (setRow_other w k g cs' hk).trans h
theorem Below.setRow {B : Nat} {a w : World} (h : Below B a w) {g : Nat} (hg : B ≤ g) (cs : Array Value) : Below B a (w.setRow g cs) :=
  h.trans ⟨rfl, rfl, rfl, by simp, fun k hk => setRow_other w g k cs (by omega)⟩
/-- A new map of kinds. -/
def GSpec.kmap (base : Nat) : GSpec :=
  ⟨Nat, 0, fun g => .map (some g), fun _ _ g w => KMap w base g Rec.kinds, fun _ _ _ _ => rfl, fun _ _ _ _ _ h k => h.ext k⟩
/-- A row of parts, looked up. -/
def GSpec.lk (base : Nat) (ps : List Nat) : GSpec :=
  ⟨Nat, 0, fun b => .tuple #[.slice (some ⟨b, 0, none⟩) ps.length ps.length, .bool true], fun _ _ b w => base ≤ b ∧ Whole w b 94 (smalls ps).toArray, fun _ _ _ _ => rfl, fun _ _ _ _ _ h k => ⟨h.1, h.2.below k h.2.lt⟩⟩
def GSpec.lk1 (base : Nat) (ps : List Nat) : GSpec :=
  ⟨Nat, 0, fun b => .slice (some ⟨b, 0, none⟩) ps.length ps.length, fun _ _ b w => base ≤ b ∧ Whole w b 94 (smalls ps).toArray, fun _ _ _ _ => rfl, fun _ _ _ _ _ h k => ⟨h.1, h.2.below k h.2.lt⟩⟩
/-- The parts of a kind. -/
def Rc.pl (k : Nat) : List Nat := ([[], [0, 1], [0, 1], [0], [0, 2, 4, 5], [2, 1], [2], [], [3], [6], [6], [6, 7]] : List (List Nat)).getD k []
theorem Rc.twelve {k : Nat} (h1 : 1 ≤ k) (h2 : k ≤ 11) : k = 1 ∨ k = 2 ∨ k = 3 ∨ k = 4 ∨ k = 5 ∨ k = 6 ∨ k = 7 ∨ k = 8 ∨ k = 9 ∨ k = 10 ∨ k = 11 := by omega
theorem Rc.pl_mem {k : Nat} {p : Nat × List Nat} (h : p ∈ Rec.kinds) (hk : p.1 = k) : 1 ≤ k ∧ k ≤ 11 ∧ p.2 = Rc.pl k := by
  simp only [Rec.kinds, List.mem_cons, List.mem_nil_iff, or_false] at h
  rcases h with rfl | rfl | rfl | rfl | rfl | rfl | rfl | rfl | rfl | rfl | rfl <;> (subst hk; exact ⟨by decide, by decide, rfl⟩)
theorem Rc.pl_not {k : Nat} (h : ∀ p ∈ Rec.kinds, p.1 ≠ k) : ¬ (1 ≤ k ∧ k ≤ 11) := by
  rintro ⟨h1, h2⟩
  rcases Rc.twelve h1 h2 with rfl | rfl | rfl | rfl | rfl | rfl | rfl | rfl | rfl | rfl | rfl 
  · exact h (1, [0, 1]) (by decide) rfl
  · exact h (2, [0, 1]) (by decide) rfl
  · exact h (3, [0]) (by decide) rfl
  · exact h (4, [0, 2, 4, 5]) (by decide) rfl
  · exact h (5, [2, 1]) (by decide) rfl
  · exact h (6, [2]) (by decide) rfl
  · exact h (7, []) (by decide) rfl
  · exact h (8, [3]) (by decide) rfl
  · exact h (9, [6]) (by decide) rfl
  · exact h (10, [6]) (by decide) rfl
  · exact h (11, [6, 7]) (by decide) rfl
theorem Rc.pl_lt (k : Nat) : ∀ p ∈ Rc.pl k, p < 8 := by
  rcases Nat.lt_or_ge k 12 with h | h
  · have hc : k = 0 ∨ k = 1 ∨ k = 2 ∨ k = 3 ∨ k = 4 ∨ k = 5 ∨ k = 6 ∨ k = 7 ∨ k = 8 ∨ k = 9 ∨ k = 10 ∨ k = 11 := by omega
    rcases hc with rfl | rfl | rfl | rfl | rfl | rfl | rfl | rfl | rfl | rfl | rfl | rfl <;> decide
  · unfold Rc.pl
    rw [List.getD_eq_getElem?_getD, List.getElem?_eq_none (by simpa using h)]
    simp
theorem Rc.pl_len (k : Nat) : (Rc.pl k).length ≤ 4 := by
  rcases Nat.lt_or_ge k 12 with h | h
  · have hc : k = 0 ∨ k = 1 ∨ k = 2 ∨ k = 3 ∨ k = 4 ∨ k = 5 ∨ k = 6 ∨ k = 7 ∨ k = 8 ∨ k = 9 ∨ k = 10 ∨ k = 11 := by omega
    rcases hc with rfl | rfl | rfl | rfl | rfl | rfl | rfl | rfl | rfl | rfl | rfl | rfl <;> decide
  · unfold Rc.pl
    rw [List.getD_eq_getElem?_getD, List.getElem?_eq_none (by simpa using h)]
    simp
/-- A record of its kind alone. -/
def Rc.zero (k : Nat) : Rc := ⟨k, 0, 0, 0, 0, 0, 0, 0, 0, 0, ⟨#[]⟩, ⟨#[]⟩⟩
theorem Rc.zero_ok {k : Nat} (h : k < 256) : (Rc.zero k).ok := by
  unfold Rc.zero Rc.ok maxLen
  exact ⟨h, by simp, by simp, by simp, by simp, by simp, by simp, by simp, by simp, by simp, Nat.zero_le _, Nat.zero_le _⟩
/-- All places of a kind's visit. -/
def Rc.places (k : Nat) : List Nat := [1, 2, 3] ++ (Rc.pl k).map (· + 4)
/-- Is a record right? -/
def Rc.right (r : Rc) : Bool := decide (1 ≤ r.k ∧ r.k ≤ 11) && decide (r.size ≤ 65535) && decide (r.crc ≤ 4294967295) && !(r.takeAll (Rc.places r.k)).2 && (r.takeAll (Rc.places r.k)).1.eqB (Rc.zero r.k)
theorem rec_size (r : Rc) : (Try.prog.info? 24).map (·.size) = some r.cells.size := by kernel_rfl
theorem rrec_size (r : Rc) : (Try.prog.info? 31).map (·.size) = some r.cells.size := by kernel_rfl
theorem rec_cells (r : Rc) : r.cells.all (·.oneCell') = true := by simp [Rc.cells, Value.oneCell']
theorem rec_eq (w : World) (a b : Rc) : (binOp .eql 24 (.agg a.cells) (.agg b.cells)).run Try.prog w = .ok (.bool (a.eqB b)) w := rec_eql w _ _ _ _ _ _ _ _ _ _ _ _ _ _ _ _ _ _ _ _ _ _ _ _
theorem rrec_eq (w : World) (a b : Rc) : (binOp .eql 31 (.agg a.cells) (.agg b.cells)).run Try.prog w = .ok (.bool (a.eqB b)) w := rrec_eql w _ _ _ _ _ _ _ _ _ _ _ _ _ _ _ _ _ _ _ _ _ _ _ _
theorem kmap_found {w : World} {base g : Nat} (h : KMap w base g Rec.kinds) {k : Nat} (h1 : 1 ≤ k) (h2 : k ≤ 11) :
    ∃ b, base ≤ b ∧ Whole w b 94 (smalls (Rc.pl k)).toArray ∧ (Instr.lookup 61 (.map (some g)) (.int .u8 (k : Nat)) true).run Try.prog w = .ok (.tuple #[.slice (some ⟨b, 0, none⟩) (Rc.pl k).length (Rc.pl k).length, .bool true]) w ∧
      (Instr.lookup 61 (.map (some g)) (.int .u8 (k : Nat)) false).run Try.prog w = .ok (.slice (some ⟨b, 0, none⟩) (Rc.pl k).length (Rc.pl k).length) w := by
  have hz : (zeroValue 60).run Try.prog w = .ok (.slice none 0 0) w := by kernel_rfl
  rcases run_lookup_key (P := Try.prog) (t := 61) Try.underlying61 Try.underlying5 hz h k with ⟨hn, _⟩ | ⟨p, hp, hk, v, ⟨b, rfl, hb, hw⟩, e1, e2⟩
  · exact absurd ⟨h1, h2⟩ (Rc.pl_not hn)
  · obtain ⟨_, _, e3⟩ := Rc.pl_mem hp hk
    rw [e3] at hw e1 e2
    exact ⟨b, hb, hw, e1, e2⟩
theorem kmap_none {w : World} {base g : Nat} (h : KMap w base g Rec.kinds) {k : Nat} (h1 : ¬ (1 ≤ k ∧ k ≤ 11)) :
    (Instr.lookup 61 (.map (some g)) (.int .u8 (k : Nat)) true).run Try.prog w = .ok (.tuple #[.slice none 0 0, .bool false]) w := by
  have hz : (zeroValue 60).run Try.prog w = .ok (.slice none 0 0) w := by kernel_rfl
  rcases run_lookup_key (P := Try.prog) (t := 61) Try.underlying61 Try.underlying5 hz h k with ⟨_, e⟩ | ⟨p, hp, hk, _⟩
  · exact e
  · obtain ⟨g1, g2, _⟩ := Rc.pl_mem hp hk
    exact absurd ⟨g1, g2⟩ h1
end Go.Proofs.Ytmobgamlednlhaa
