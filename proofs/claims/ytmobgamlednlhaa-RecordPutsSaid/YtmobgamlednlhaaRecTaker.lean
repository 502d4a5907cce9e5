/-
  Records: the visitor that takes out what is told of.
-/
import Derived.Test.YtmobgamlednlhaaRecVisit
import Derived.Test.YtmobgamlednlhaaRecPut
namespace Go.Proofs.Ytmobgamlednlhaa
open Go.RowKit
theorem Fix.mono {T T' gr gt : Nat} {a b : World} (h : Fix T gr gt a b) (hT : T' ≤ T) : Fix T' gr gt a b := ⟨h.os, h.tape, h.output, h.size, fun k hk h1 h2 => h.block k (by omega) h1 h2⟩
theorem Fix.below {T H gr gt : Nat} {a b : World} (h : Fix T gr gt a b) (hT : H ≤ T) (h1 : H ≤ gr) (h2 : H ≤ gt) : Below H a b := ⟨h.os, h.tape, h.output, h.size, fun k hk => h.block k (by omega) (by omega) (by omega)⟩
theorem Fix.set {T gr gt : Nat} (w : World) {p : Addr} (h : p.block = gr ∨ p.block = gt) (u : Value) : Fix T gr gt w (w.setCell p u) :=
  have hb := (Below.refl 0 w).setCell (p := p) (Nat.zero_le _) u
  ⟨hb.os, hb.tape, hb.output, hb.size, fun k _ h1 h2 => Below.heap_setCell w p u k (by rcases h with h | h <;> rw [h] <;> assumption)⟩
theorem bytes_nil {s : ByteArray} : s.toList = [] ↔ s.size = 0 := by
  rw [ByteArray.toList_eq, ← List.length_eq_zero_iff, Array.length_toList]
  exact Iff.rfl
theorem taker_number_any (w : World) (a : Option Addr) (gr i n : Nat) (T : TypeId) (cs : Array Value) (h : Whole w gr T cs) (hc : cs[i]? = some (.int .u64 (n : Nat))) :
    Calls Try.prog 76 #[.pointer a, .pointer (some ⟨gr, i, none⟩)] w fun en w' => en = .returned (.tuple #[]) ∧ w' = w.setCell ⟨gr, i, none⟩ (.int .u64 (0 : Nat)) := by
  have q := (h.cell i).trans hc
  have f := h.frozen i
  clear h hc
  go_enter Try.func76, Try.ntmps76
  go_wp2_with fail
  go_end0
  exact ⟨rfl, rfl⟩
set_option maxHeartbeats 4000000 in
theorem taker_text_any (w : World) (gr gt i : Nat) (T T' : TypeId) (cs : Array Value) (h : Whole w gr T cs) (s : ByteArray) (hc : cs[i]? = some (.string s)) (hs : s.size ≤ maxLen) (b : Bool) (ht : Whole w gt T' #[.bool b]) (hne : gr ≠ gt) :
    Calls Try.prog 77 #[.pointer (some ⟨gt, 0, none⟩), .pointer (some ⟨gr, i, none⟩)] w fun en w' => en = .returned (.tuple #[]) ∧
      w' = (w.setCell ⟨gt, 0, none⟩ (.bool (b || decide (s.size = 0) || decide (64 < s.size)))).setCell ⟨gr, i, none⟩ (.string ⟨#[]⟩) := by
  have q := (h.cell i).trans hc
  have f := h.frozen i
  have q1 := ht.cell 0
  simp at q1
  have f1 := ht.frozen 0
  unfold maxLen at hs
  have HNE := Lib.hid hne
  have q2 := ((h.far (p := ⟨gt, 0, none⟩) hne (.bool (b || decide (s.size = 0) || decide (64 < s.size)))).cell i).trans hc
  have f2 := (h.far (p := ⟨gt, 0, none⟩) hne (.bool (b || decide (s.size = 0) || decide (64 < s.size)))).frozen i
  clear h hc ht hne
  cases b with
  | true =>
    simp only [Bool.true_or] at q2 f2 ⊢
    go_enter Try.func77, Try.ntmps77
    go_wp2_with fail
    go_end0
    exact ⟨rfl, rfl⟩
  | false =>
    by_cases h0 : s.size = 0
    · have he : s.toList = [] := bytes_nil.2 h0
      rw [decide_eq_true h0] at q2 f2 ⊢
      simp only [Bool.false_or, Bool.true_or] at q2 f2 ⊢
      clear h0
      go_enter Try.func77, Try.ntmps77
      go_wp2_with fail
      go_end0
      exact ⟨rfl, rfl⟩
    · have he : s.toList.isEmpty = false := by simpa using fun e => h0 (bytes_nil.1 e)
      rw [decide_eq_false h0] at q2 f2 ⊢
      simp only [Bool.false_or] at q2 f2 ⊢
      clear h0
      by_cases h64 : 64 < s.size
      · have hd : decide ((64 : Int) < (s.size : Int)) = true := by simp; omega
        rw [decide_eq_true h64] at q2 f2 ⊢
        clear h64
        go_enter Try.func77, Try.ntmps77
        go_wp2_with fail
        go_end0
        exact ⟨rfl, rfl⟩
      · have hd : decide ((64 : Int) < (s.size : Int)) = false := by simp; omega
        rw [decide_eq_false h64] at q2 f2 ⊢
        clear h64
        go_enter Try.func77, Try.ntmps77
        go_wp2_with fail
        go_end0
        exact ⟨rfl, rfl⟩
theorem taker_ahead (a : Addr) (w : World) : (nilAhead (Try.prog.types.size + Made.depth) 66 (.pointer (some a)) "chartroom/record.number").run Try.prog w = .ok (some false) w ∧ (nilAhead (Try.prog.types.size + Made.depth) 66 (.pointer (some a)) "chartroom/record.text").run Try.prog w = .ok (some false) w := by
  constructor <;> kernel_rfl
theorem taker_method (v : Value) (w : World) : (method 231 66 v "chartroom/record.number").run Try.prog w = .ok (76, v) w ∧ (method 231 66 v "chartroom/record.text").run Try.prog w = .ok (77, v) w := by
  constructor <;> kernel_rfl
theorem taker_enter (args : Array Value) (w : World) : (callFunc 76 args).run Try.prog w = .ok (.enter 76 args) w ∧ (callFunc 77 args).run Try.prog w = .ok (.enter 77 args) w := by
  constructor <;> kernel_rfl
theorem Rc.takeAll_ok {r : Rc} (h : r.ok) (l : List Nat) : (r.takeAll l).1.ok := by
  suffices H : ∀ (l : List Nat) (x : Rc × Bool), x.1.ok → (l.foldl Rc.takeStep x).1.ok from H l _ h
  intro l
  induction l with
  | nil => exact fun _ h => h
  | cons i l ih => exact fun x hx => ih _ (Rc.ok_put hx i (by omega) (by unfold maxLen; exact Nat.zero_le _))
/-- What is kept. -/
def TakeV (gr gt : Nat) (T T' : TypeId) (r : Rc) (_ : Nat) (l : List Nat) (w : World) : Prop := Whole w gr T (r.takeAll l).1.cells ∧ Whole w gt T' #[.bool (r.takeAll l).2]
theorem visit_taker (w : World) (gr gt : Nat) (T T' : TypeId) (r : Rc) (hok : r.ok) (hr : Whole w gr T r.cells) (ht : Whole w gt T' #[.bool false]) (hne : gr ≠ gt) (A : Option Addr) (n c : Nat) (ps : List Nat) (hps : ∀ p ∈ ps, p < 8)
    (hA : Rd w w.heap.size 1 A n (smalls ps)) (hAb : 0 < n → ∀ b o, A = some ⟨b, o, none⟩ → b ≠ gr ∧ b ≠ gt) (hn : n ≤ 8) :
    Calls Try.prog 30 #[.pointer (some ⟨gr, 0, none⟩), .iface 66 (.pointer (some ⟨gt, 0, none⟩)), .slice A n c] w fun en w' => en = .returned (.tuple #[]) ∧
      Whole w' gr T (r.takeAll ([1, 2, 3] ++ ps.map (· + 4))).1.cells ∧ Whole w' gt T' #[.bool (r.takeAll ([1, 2, 3] ++ ps.map (· + 4))).2] ∧ Fix w.heap.size gr gt w w' := by
  refine (visit_any 66 76 77 (fun v w => (taker_method v w).1) (fun v w => (taker_method v w).2) (fun a w => (taker_enter a w).1) (fun a w => (taker_enter a w).2) (TakeV gr gt T T' r) w gr gt
    (fun w => (taker_ahead _ w).1) (fun w => (taker_ahead _ w).2) hr.lt ht.lt A n c ps hps hA hAb hn (fun Tm w1 hb _ _ => ⟨hr.below hb hr.lt, ht.below hb ht.lt⟩) (fun Tm l w1 w2 hv hb => ⟨hv.1.below hb hv.1.lt, hv.2.below hb hv.2.lt⟩) ?_ ?_).mono ?_
  · intro Tm l i w1 _ _ hv _ h1 h2
    refine (taker_number_any w1 _ gr i _ T _ hv.1 (Rc.cells_at _ h1 h2)).mono ?_
    rintro en w2 ⟨rfl, rfl⟩
    refine ⟨rfl, ⟨?_, ?_⟩, Fix.set w1 (p := ⟨gr, i, none⟩) (.inl rfl) _⟩
    · have h := hv.1.put_ i (.int .u64 (0 : Nat))
      rw [Rc.cells_put _ h1 h2 0 ⟨#[]⟩] at h
      rw [Rc.takeAll_snoc]
      exact h
    · have h := hv.2.far (p := ⟨gr, i, none⟩) (Ne.symm hne) (.int .u64 (0 : Nat))
      rw [Rc.takeAll_snoc]
      unfold Rc.takeStep
      rw [if_pos h2]
      exact h
  · intro Tm l i w1 _ _ hv _ h1
    refine (taker_text_any w1 gr gt i T T' _ hv.1 _ (Rc.cells_tat _ h1) (Rc.ok_tat (Rc.takeAll_ok hok l) i) _ hv.2 hne).mono ?_
    rintro en w2 ⟨rfl, rfl⟩
    refine ⟨rfl, ⟨?_, ?_⟩, (Fix.set w1 (p := ⟨gt, 0, none⟩) (.inr rfl) _).trans (Fix.set _ (p := ⟨gr, i, none⟩) (.inl rfl) _)⟩
    · have h := (hv.1.far (p := ⟨gt, 0, none⟩) hne (.bool ((r.takeAll l).2 || decide (((r.takeAll l).1.tat i).size = 0) || decide (64 < ((r.takeAll l).1.tat i).size)))).put_ i (.string ⟨#[]⟩)
      rw [Rc.cells_putt _ h1 0 ⟨#[]⟩] at h
      rw [Rc.takeAll_snoc]
      exact h
    · have h := (hv.2.put_ 0 (.bool ((r.takeAll l).2 || decide (((r.takeAll l).1.tat i).size = 0) || decide (64 < ((r.takeAll l).1.tat i).size)))).far (p := ⟨gr, i, none⟩) (Ne.symm hne) (.string ⟨#[]⟩)
      rw [Rc.takeAll_snoc]
      unfold Rc.takeStep
      rw [if_neg (by omega)]
      exact h
  · rintro en w' ⟨he, Tm, hT, hv, w0, hb, hf⟩
    exact ⟨he, hv.1, hv.2, (Fix.of_below hb (Nat.le_refl _)).trans (hf.mono hT)⟩
end Go.Proofs.Ytmobgamlednlhaa
