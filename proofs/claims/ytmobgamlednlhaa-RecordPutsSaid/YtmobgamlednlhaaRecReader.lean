/-
  Records: the visitor that reads.
-/
import Derived.Test.YtmobgamlednlhaaRecWriter
import Derived.Deep.RegionWith
namespace Go.Proofs.Ytmobgamlednlhaa
open Go.RowKit
set_option maxHeartbeats 8000000 in
theorem reader_number_any (w : World) (gr gt i : Nat) (k0 : Nat) (TR TW : TypeId) (cs : Array Value) (hr : Whole w gr TR cs) (hc : cs[i]? = some (.int .u64 (k0 : Nat))) (A : Option Addr) (n cap : Nat) (b : List UInt8) (B : Nat) (h : Rd w B 1 A n (byts b)) (hcap : n ≤ cap) (hm : n ≤ 100000000) (p : Int) (hp1 : 0 ≤ p) (hp2 : p ≤ 9223372036854775807)
    (ht : Whole w gt TW #[.slice A n cap, .int .i64 p, .int .i64 (0 : Nat)]) (hne : gr ≠ gt) (T : Nat) :
    Calls Try.prog 78 #[.pointer (some ⟨gt, 0, none⟩), .pointer (some ⟨gr, i, none⟩)] w fun en w' => en = .returned (.tuple #[]) ∧
      Whole w' gr TR (cs.setIfInBounds i (.int .u64 ((Var.take b p).1 : Nat))) ∧ Whole w' gt TW #[.slice A n cap, .int .i64 (Var.take b p).2.1, .int .i64 ((Var.take b p).2.2 : Nat)] ∧ Fix T gr gt w w' := by
  have hcall : ∀ w' : World, Rd w' B 1 A n (byts b) → Calls Try.prog 48 #[.slice A n cap, .int .i64 p] w' fun e w'' => e = .returned (.tuple #[.int .u64 ((Var.take b p).1 : Nat), .int .i64 (Var.take b p).2.1, .int .i64 ((Var.take b p).2.2 : Nat)]) ∧ w' = w'' := fun w' h => take_any w' A n cap b B h hcap hm p (by omega) hp2
  obtain ⟨x1, hx1⟩ : ∃ x, (Var.take b p).1 = x := ⟨_, rfl⟩
  obtain ⟨x2, hx2⟩ : ∃ x, (Var.take b p).2.1 = x := ⟨_, rfl⟩
  obtain ⟨x3, hx3⟩ : ∃ x, (Var.take b p).2.2 = x := ⟨_, rfl⟩
  rw [hx1, hx2, hx3] at hcall ⊢
  have HC := Lib.hid (hcall w.drew h)
  clear hx1 hx2 hx3 hcall h
  have q0 := ht.cell 0
  have q1 := ht.cell 1
  have q2 := ht.cell 2
  simp at q0 q1 q2
  have q := (hr.cell i).trans hc
  have f := hr.frozen i
  have k1 := hr.put_ i (Value.int .u64 (x1 : Nat))
  have t1 := ht.far (p := ⟨gr, i, none⟩) (Ne.symm hne) (Value.int .u64 (x1 : Nat))
  have q4 := t1.cell 1
  simp at q4
  have f4 := t1.frozen 1
  have t2 := t1.put_ 1 (Value.int .i64 x2)
  have k2 := k1.far (p := ⟨gt, 1, none⟩) hne (Value.int .i64 x2)
  have q5 := t2.cell 2
  simp at q5
  have f5 := t2.frozen 2
  have t3 := t2.put_ 2 (Value.int .i64 (x3 : Nat))
  have k3 := k2.far (p := ⟨gt, 2, none⟩) hne (Value.int .i64 (x3 : Nat))
  have fx := (((Fix.set (T := T) (gr := gr) (gt := gt) w (p := ⟨gr, i, none⟩) (.inl rfl) (Value.int .u64 (x1 : Nat)))).trans (Fix.set _ (p := ⟨gt, 1, none⟩) (.inr rfl) (Value.int .i64 x2))).trans (Fix.set _ (p := ⟨gt, 2, none⟩) (.inr rfl) (Value.int .i64 (x3 : Nat)))
  have K3 := Lib.hid k3
  have T3 := Lib.hid t3
  have FX := Lib.hid fx
  have e0 : ((0 : Int) == 0) = true := rfl
  clear hr ht hne k1 k2 k3 t1 t2 t3 fx hc
  go_enter Try.func78, Try.ntmps78
  go_wp2_with fail
  go_region_with (go_at_call 48; refine HC.out.mono ?_; rintro en w2 ⟨rfl, rfl⟩)
  all_goals
    go_wp2_with fail
    go_end0
    exact ⟨rfl, K3.out.drew, T3.out.drew, FX.out.trans (Fix.of_belowT (Below.refl T _).drew)⟩
theorem reader_number_stay (w : World) (gr gt i e : Nat) (TW : TypeId) (v0 v1 : Value) (he : e ≠ 0) (ht : Whole w gt TW #[v0, v1, .int .i64 (e : Nat)]) :
    Calls Try.prog 78 #[.pointer (some ⟨gt, 0, none⟩), .pointer (some ⟨gr, i, none⟩)] w fun en w' => en = .returned (.tuple #[]) ∧ w' = w := by
  have q2 := ht.cell 2
  simp at q2
  have e0 : ((e : Int) == 0) = false := by simp; omega
  clear ht he
  go_enter Try.func78, Try.ntmps78
  go_wp2_with fail
  go_end0
  exact ⟨rfl, rfl⟩
set_option maxHeartbeats 8000000 in
theorem reader_text_any (w : World) (gr gt i : Nat) (s0 : ByteArray) (TR TW : TypeId) (cs : Array Value) (hr : Whole w gr TR cs) (hc : cs[i]? = some (.string s0)) (A : Option Addr) (n cap : Nat) (b : List UInt8) (B : Nat) (h : Rd w B 1 A n (byts b)) (hcap : n ≤ cap) (hm : n ≤ 100000000) (p : Int) (hp1 : 0 ≤ p) (hp2 : p ≤ 9223372036854775807)
    (ht : Whole w gt TW #[.slice A n cap, .int .i64 p, .int .i64 (0 : Nat)]) (hne : gr ≠ gt) (T : Nat) :
    Calls Try.prog 79 #[.pointer (some ⟨gt, 0, none⟩), .pointer (some ⟨gr, i, none⟩)] w fun en w' => en = .returned (.tuple #[]) ∧
      Whole w' gr TR (cs.setIfInBounds i (.string ⟨(Var.ttext b p).1.toArray⟩)) ∧ Whole w' gt TW #[.slice A n cap, .int .i64 (Var.ttext b p).2.1, .int .i64 ((Var.ttext b p).2.2 : Nat)] ∧ Fix T gr gt w w' := by
  have hcall : ∀ w' : World, Rd w' B 1 A n (byts b) → Calls Try.prog 80 #[.slice A n cap, .int .i64 p] w' fun e w'' => e = .returned (.tuple #[.string ⟨(Var.ttext b p).1.toArray⟩, .int .i64 (Var.ttext b p).2.1, .int .i64 ((Var.ttext b p).2.2 : Nat)]) ∧ w' = w'' := fun w' h => takeText_any w' A n cap b B h hcap hm p (by omega) hp2
  obtain ⟨x1, hx1⟩ : ∃ x, (Var.ttext b p).1 = x := ⟨_, rfl⟩
  obtain ⟨x2, hx2⟩ : ∃ x, (Var.ttext b p).2.1 = x := ⟨_, rfl⟩
  obtain ⟨x3, hx3⟩ : ∃ x, (Var.ttext b p).2.2 = x := ⟨_, rfl⟩
  rw [hx1, hx2, hx3] at hcall ⊢
  have HC := Lib.hid (hcall w.drew h)
  clear hx1 hx2 hx3 hcall h
  have q0 := ht.cell 0
  have q1 := ht.cell 1
  have q2 := ht.cell 2
  simp at q0 q1 q2
  have q := (hr.cell i).trans hc
  have f := hr.frozen i
  have k1 := hr.put_ i (Value.string ⟨x1.toArray⟩)
  have t1 := ht.far (p := ⟨gr, i, none⟩) (Ne.symm hne) (Value.string ⟨x1.toArray⟩)
  have q4 := t1.cell 1
  simp at q4
  have f4 := t1.frozen 1
  have t2 := t1.put_ 1 (Value.int .i64 x2)
  have k2 := k1.far (p := ⟨gt, 1, none⟩) hne (Value.int .i64 x2)
  have q5 := t2.cell 2
  simp at q5
  have f5 := t2.frozen 2
  have t3 := t2.put_ 2 (Value.int .i64 (x3 : Nat))
  have k3 := k2.far (p := ⟨gt, 2, none⟩) hne (Value.int .i64 (x3 : Nat))
  have fx := (((Fix.set (T := T) (gr := gr) (gt := gt) w (p := ⟨gr, i, none⟩) (.inl rfl) (Value.string ⟨x1.toArray⟩))).trans (Fix.set _ (p := ⟨gt, 1, none⟩) (.inr rfl) (Value.int .i64 x2))).trans (Fix.set _ (p := ⟨gt, 2, none⟩) (.inr rfl) (Value.int .i64 (x3 : Nat)))
  have K3 := Lib.hid k3
  have T3 := Lib.hid t3
  have FX := Lib.hid fx
  have e0 : ((0 : Int) == 0) = true := rfl
  clear hr ht hne k1 k2 k3 t1 t2 t3 fx hc
  go_enter Try.func79, Try.ntmps79
  go_wp2_with fail
  go_region_with (go_at_call 80; refine HC.out.mono ?_; rintro en w2 ⟨rfl, rfl⟩)
  all_goals
    go_wp2_with fail
    go_end0
    exact ⟨rfl, K3.out.drew, T3.out.drew, FX.out.trans (Fix.of_belowT (Below.refl T _).drew)⟩
theorem reader_text_stay (w : World) (gr gt i e : Nat) (TW : TypeId) (v0 v1 : Value) (he : e ≠ 0) (ht : Whole w gt TW #[v0, v1, .int .i64 (e : Nat)]) :
    Calls Try.prog 79 #[.pointer (some ⟨gt, 0, none⟩), .pointer (some ⟨gr, i, none⟩)] w fun en w' => en = .returned (.tuple #[]) ∧ w' = w := by
  have q2 := ht.cell 2
  simp at q2
  have e0 : ((e : Int) == 0) = false := by simp; omega
  clear ht he
  go_enter Try.func79, Try.ntmps79
  go_wp2_with fail
  go_end0
  exact ⟨rfl, rfl⟩
theorem Var.ttext_cases (b : List UInt8) (p : Int) : (∃ t nx, ∃ q : Nat, Var.ttext b p = (t, ((nx : Nat) : Int), 0) ∧ p = q ∧ q < nx ∧ nx ≤ b.length ∧ t.length ≤ b.length) ∨ Var.ttext b p = ([], p, 10) ∨ Var.ttext b p = ([], p, 11) := by
  unfold Var.ttext
  rcases Var.take_cases b p with ⟨v, s, q, hv, hq, h1, h2, h3⟩ | hv | hv
  · rw [hv]
    simp only [Int.toNat_natCast]
    rw [if_neg (by simp)]
    by_cases hl : b.length - s < v
    · rw [if_pos hl]; exact .inr (.inl rfl)
    · rw [if_neg hl]
      refine .inl ⟨_, s + v, q, rfl, hq, by omega, by omega, ?_⟩
      rw [List.length_drop, List.length_take]
      omega
  · rw [hv]; exact .inr (.inl rfl)
  · rw [hv]; exact .inr (.inr rfl)
namespace Rc
/-- What holds while a record is read. -/
def ReadI (b : List UInt8) (x : Rc × Int × Nat) : Prop := x.1.ok ∧ 0 ≤ x.2.1 ∧ x.2.1 ≤ (b.length : Int) ∧ (x.2.2 = 0 ∨ x.2.2 = 10 ∨ x.2.2 = 11)
theorem readI_step {b : List UInt8} (hb : b.length ≤ 100000000) {x : Rc × Int × Nat} (h : ReadI b x) (i : Nat) : ReadI b (readStep b x i) := by
  obtain ⟨h1, h2, h3, h4⟩ := h
  unfold readStep
  by_cases he : x.2.2 = 0
  · rw [if_pos he]
    split
    · rcases Var.take_cases b x.2.1 with ⟨v, s, q, hv, hq, g1, g2, g3⟩ | hv | hv <;> rw [hv]
      · exact ⟨ok_put h1 i g3 (by unfold maxLen; exact Nat.zero_le _), by show (0 : Int) ≤ (s : Int); omega, by show (s : Int) ≤ _; omega, .inl rfl⟩
      · exact ⟨ok_put h1 i (by omega) (by unfold maxLen; exact Nat.zero_le _), h2, h3, .inr (.inl rfl)⟩
      · exact ⟨ok_put h1 i (by omega) (by unfold maxLen; exact Nat.zero_le _), h2, h3, .inr (.inr rfl)⟩
    · rcases Var.ttext_cases b x.2.1 with ⟨t, s, q, hv, hq, g1, g2, g3⟩ | hv | hv <;> rw [hv]
      · refine ⟨ok_put h1 i (by omega) ?_, by show (0 : Int) ≤ (s : Int); omega, by show (s : Int) ≤ _; omega, .inl rfl⟩
        show t.toArray.size ≤ maxLen
        unfold maxLen
        rw [List.size_toArray]
        omega
      · exact ⟨ok_put h1 i (by omega) (by unfold maxLen; exact Nat.zero_le _), h2, h3, .inr (.inl rfl)⟩
      · exact ⟨ok_put h1 i (by omega) (by unfold maxLen; exact Nat.zero_le _), h2, h3, .inr (.inr rfl)⟩
  · rw [if_neg he]; exact ⟨h1, h2, h3, h4⟩
theorem readI {b : List UInt8} (hb : b.length ≤ 100000000) {r : Rc} (h : r.ok) (l : List Nat) : ReadI b (readAll b r l) := by
  suffices H : ∀ (l : List Nat) (x : Rc × Int × Nat), ReadI b x → ReadI b (l.foldl (readStep b) x) from H l _ ⟨h, Int.le_refl 0, Int.natCast_nonneg _, .inl rfl⟩
  intro l
  induction l with
  | nil => exact fun _ h => h
  | cons i l ih => exact fun x hx => ih _ (readI_step hb hx i)
end Rc
theorem Rd.fix {w w' : World} {B s n T gr gt : Nat} {A : Option Addr} {xs : List Value} (h : Rd w B s A n xs) (hf : Fix T gr gt w w') (hB : B ≤ T) (hA : 0 < n → ∀ b o, A = some ⟨b, o, none⟩ → b ≠ gr ∧ b ≠ gt) : Rd w' B s A n xs :=
  ⟨h.1, fun hn => by
    obtain ⟨b, o, e, hb, hc⟩ := h.2 hn
    obtain ⟨h1, h2⟩ := hA hn b o e
    exact ⟨b, o, e, hb, fun j u hu => (hf.cell (p := ⟨b, o + j, none⟩) (show b < T by omega) h1 h2).trans (hc j u hu)⟩⟩
theorem reader_ahead (a : Addr) (w : World) : (nilAhead (Try.prog.types.size + Made.depth) 74 (.pointer (some a)) "chartroom/record.number").run Try.prog w = .ok (some false) w ∧ (nilAhead (Try.prog.types.size + Made.depth) 74 (.pointer (some a)) "chartroom/record.text").run Try.prog w = .ok (some false) w := by
  constructor <;> kernel_rfl
theorem reader_method (v : Value) (w : World) : (method 231 74 v "chartroom/record.number").run Try.prog w = .ok (78, v) w ∧ (method 231 74 v "chartroom/record.text").run Try.prog w = .ok (79, v) w := by
  constructor <;> kernel_rfl
theorem reader_enter (args : Array Value) (w : World) : (callFunc 78 args).run Try.prog w = .ok (.enter 78 args) w ∧ (callFunc 79 args).run Try.prog w = .ok (.enter 79 args) w := by
  constructor <;> kernel_rfl
/-- What is kept. -/
def ReadV (gr gt B : Nat) (TR TW : TypeId) (A0 : Option Addr) (n0 c0 : Nat) (b : List UInt8) (r : Rc) (_ : Nat) (l : List Nat) (w : World) : Prop :=
  B ≤ w.heap.size ∧ Rd w B 1 A0 n0 (byts b) ∧ Whole w gr TR (Rc.readAll b r l).1.cells ∧ Whole w gt TW #[.slice A0 n0 c0, .int .i64 (Rc.readAll b r l).2.1, .int .i64 ((Rc.readAll b r l).2.2 : Nat)]
set_option maxHeartbeats 1000000 in
theorem visit_reader (w : World) (gr gt : Nat) (TR TW : TypeId) (r : Rc) (hok : r.ok) (A0 : Option Addr) (n0 c0 : Nat) (b : List UInt8) (B : Nat) (hB : B ≤ w.heap.size) (hb : Rd w B 1 A0 n0 (byts b)) (hc0 : n0 ≤ c0) (hn0 : n0 ≤ 100000000)
    (hr : Whole w gr TR r.cells) (ht : Whole w gt TW #[.slice A0 n0 c0, .int .i64 (0 : Nat), .int .i64 (0 : Nat)]) (hne : gr ≠ gt) (hbb : 0 < n0 → ∀ b o, A0 = some ⟨b, o, none⟩ → b ≠ gr ∧ b ≠ gt)
    (A : Option Addr) (n c : Nat) (ps : List Nat) (hps : ∀ p ∈ ps, p < 8)
    (hA : Rd w w.heap.size 1 A n (smalls ps)) (hAb : 0 < n → ∀ b o, A = some ⟨b, o, none⟩ → b ≠ gr ∧ b ≠ gt) (hn : n ≤ 8) :
    Calls Try.prog 30 #[.pointer (some ⟨gr, 0, none⟩), .iface 74 (.pointer (some ⟨gt, 0, none⟩)), .slice A n c] w fun en w' => en = .returned (.tuple #[]) ∧
      Whole w' gr TR (Rc.readAll b r ([1, 2, 3] ++ ps.map (· + 4))).1.cells ∧ Whole w' gt TW #[.slice A0 n0 c0, .int .i64 (Rc.readAll b r ([1, 2, 3] ++ ps.map (· + 4))).2.1, .int .i64 ((Rc.readAll b r ([1, 2, 3] ++ ps.map (· + 4))).2.2 : Nat)] ∧
      Rd w' B 1 A0 n0 (byts b) ∧ Fix w.heap.size gr gt w w' := by
  have hl := hb.blen
  refine (visit_any 74 78 79 (fun v w => (reader_method v w).1) (fun v w => (reader_method v w).2) (fun a w => (reader_enter a w).1) (fun a w => (reader_enter a w).2) (ReadV gr gt B TR TW A0 n0 c0 b r) w gr gt
    (fun w => (reader_ahead _ w).1) (fun w => (reader_ahead _ w).2) hr.lt ht.lt A n c ps hps hA hAb hn (fun Tm w1 hb1 hT _ => ⟨Nat.le_trans hB hb1.size, hb.below (hb1.mono hB), hr.below hb1 hr.lt, ht.below hb1 ht.lt⟩) (fun Tm l w1 w2 hv hb1 => by
      obtain ⟨h1, h2, h3, h4⟩ := hv
      exact ⟨Nat.le_trans h1 hb1.size, h2.below (hb1.mono h1), h3.below hb1 h3.lt, h4.below hb1 h4.lt⟩) ?_ ?_).mono ?_
  · intro Tm l i w1 hTm hTs hv _ h1 h2
    obtain ⟨g1, g2, g3, g4⟩ := hv
    obtain ⟨i1, i2, i3, i4⟩ := Rc.readI (b := b) (by omega) hok l
    by_cases he : (Rc.readAll b r l).2.2 = 0
    · rw [he] at g4
      refine (reader_number_any w1 gr gt i _ TR TW _ g3 (Rc.cells_at _ h1 h2) A0 n0 c0 b B g2 hc0 hn0 _ i2 (by omega) g4 hne Tm).mono ?_
      rintro en w2 ⟨rfl, k1, k2, k3⟩
      rw [Rc.cells_put _ h1 h2 _ ⟨#[]⟩] at k1
      have hs : Rc.readAll b r (l ++ [i]) = ((Rc.readAll b r l).1.put i (Var.take b (Rc.readAll b r l).2.1).1 ⟨#[]⟩, (Var.take b (Rc.readAll b r l).2.1).2.1, (Var.take b (Rc.readAll b r l).2.1).2.2) := by
        rw [Rc.readAll_snoc]; unfold Rc.readStep; rw [if_pos he, if_pos h2]
      refine ⟨rfl, ⟨Nat.le_trans g1 k3.size, g2.fix k3 (Nat.le_trans hB hTm) hbb, ?_, ?_⟩, k3⟩
      · rw [hs]; exact k1
      · rw [hs]; exact k2
    · refine (reader_number_stay w1 gr gt i _ TW _ _ he g4).mono ?_
      rintro en w2 ⟨rfl, rfl⟩
      have hs : Rc.readAll b r (l ++ [i]) = Rc.readAll b r l := by
        rw [Rc.readAll_snoc]; unfold Rc.readStep; rw [if_neg he]
      refine ⟨rfl, ⟨g1, g2, ?_, ?_⟩, Fix.refl _ _ _ _⟩
      · rw [hs]; exact g3
      · rw [hs]; exact g4
  · intro Tm l i w1 hTm hTs hv _ h1
    obtain ⟨g1, g2, g3, g4⟩ := hv
    obtain ⟨i1, i2, i3, i4⟩ := Rc.readI (b := b) (by omega) hok l
    by_cases he : (Rc.readAll b r l).2.2 = 0
    · rw [he] at g4
      refine (reader_text_any w1 gr gt i _ TR TW _ g3 (Rc.cells_tat _ h1) A0 n0 c0 b B g2 hc0 hn0 _ i2 (by omega) g4 hne Tm).mono ?_
      rintro en w2 ⟨rfl, k1, k2, k3⟩
      rw [Rc.cells_putt _ h1 0] at k1
      have hs : Rc.readAll b r (l ++ [i]) = ((Rc.readAll b r l).1.put i 0 ⟨(Var.ttext b (Rc.readAll b r l).2.1).1.toArray⟩, (Var.ttext b (Rc.readAll b r l).2.1).2.1, (Var.ttext b (Rc.readAll b r l).2.1).2.2) := by
        rw [Rc.readAll_snoc]; unfold Rc.readStep; rw [if_pos he, if_neg (by omega)]
      refine ⟨rfl, ⟨Nat.le_trans g1 k3.size, g2.fix k3 (Nat.le_trans hB hTm) hbb, ?_, ?_⟩, k3⟩
      · rw [hs]; exact k1
      · rw [hs]; exact k2
    · refine (reader_text_stay w1 gr gt i _ TW _ _ he g4).mono ?_
      rintro en w2 ⟨rfl, rfl⟩
      have hs : Rc.readAll b r (l ++ [i]) = Rc.readAll b r l := by
        rw [Rc.readAll_snoc]; unfold Rc.readStep; rw [if_neg he]
      refine ⟨rfl, ⟨g1, g2, ?_, ?_⟩, Fix.refl _ _ _ _⟩
      · rw [hs]; exact g3
      · rw [hs]; exact g4
  · rintro en w' ⟨he, Tm, hT, ⟨_, hv0, hv1, hv2⟩, w0, hb, hf⟩
    exact ⟨he, hv1, hv2, hv0, (Fix.of_below hb (Nat.le_refl _)).trans (hf.mono hT)⟩
end Go.Proofs.Ytmobgamlednlhaa
