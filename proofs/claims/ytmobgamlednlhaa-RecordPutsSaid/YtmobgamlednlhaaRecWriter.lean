/-
  Records: the visitor that writes.
-/
import Derived.Test.YtmobgamlednlhaaRecTaker
import Derived.Test.YtmobgamlednlhaaFraOne
import Derived.Deep.RegionLaw
namespace Go.Proofs.Ytmobgamlednlhaa
open Go.RowKit
theorem size_list (s : ByteArray) : s.data.toList.length = s.size := by rw [Array.length_toList]; rfl
theorem Fix.of_belowT {T gr gt : Nat} {a b : World} (h : Below T a b) : Fix T gr gt a b := ⟨h.os, h.tape, h.output, h.size, fun k hk _ _ => h.block k hk⟩
set_option maxHeartbeats 4000000 in
theorem writer_number_any (w : World) (gr gt i : Nat) (k : Nat) (TR TW : TypeId) (cs : Array Value) (hr : Whole w gr TR cs) (hc : cs[i]? = some (.int .u64 (k : Nat))) (hk : k < 18446744073709551616) (T : Nat) (A : Option Addr) (c : Nat) (l : List UInt8) (L : Nat) (hL : l.length = L) (hl : L ≤ 10000)
    (ht : Whole w gt TW #[.slice A L c]) (ho : w.ownsRow T 5 1 (.slice A L c) L (byts l)) (hT : T ≤ w.heap.size) (h1 : gt < T) :
    Calls Try.prog 73 #[.pointer (some ⟨gt, 0, none⟩), .pointer (some ⟨gr, i, none⟩)] w fun en w' => en = .returned (.tuple #[]) ∧
      ∃ A' c', Whole w' gt TW #[.slice A' (l ++ Var.put k).length c'] ∧ w'.ownsRow T 5 1 (.slice A' (l ++ Var.put k).length c') (l ++ Var.put k).length (byts (l ++ Var.put k)) ∧ Fix T gt gt w w' := by
  have q := (hr.cell i).trans hc
  have q1 := ht.cell 0
  simp at q1
  have HT := Lib.hid hT
  have HO := Lib.hid (show w.drew.ownsRow T 5 1 (.slice A L c) L (byts l) from ho)
  have HW := Lib.hid (show Whole w.drew gt TW #[.slice A L c] from ht)
  have HG := Lib.hid h1
  have HGS := Lib.hid (show gt < w.drew.heap.size from Nat.lt_of_lt_of_le h1 hT)
  have HTD := Lib.hid (show T ≤ w.drew.heap.size from hT)
  have HL := Lib.hid hL
  have HPL := Lib.hid (show (Var.put k).length ≤ 10 from (Var.put_length k).2)
  clear hr hc ht ho hT hL
  go_enter Try.func73, Try.ntmps73
  go_wp2_with fail
  go_region_law (first | (go_simp; go_at_call 52; refine (put_any _ _ hk).mono ?_; rintro en w2 ⟨D, c2, rfl, ho2, hb2⟩; have HB2 := Lib.hid hb2; have HO2 := Lib.hid ho2; have q2 := (hb2.cell (p := ⟨gt, 0, none⟩) HGS.out).trans q1; clear ho2 hb2) | (refine step_append_rd _ rfl (.tmp 8) (.tmp 12) 27 rfl bytesV T (.slice A L c) L (byts l) rfl (own_ext HO.out HB2.out) _ D _ c2 _ rfl (Rd.of_own HO2.out) (byts_one _) (by have := HPL.out; unfold maxLen; omega) (by have := HPL.out; omega) (Nat.le_trans HTD.out HB2.out.size) ?_; intro A3 c3 w3 ho3 hb3 hg3 hd3; have q3 := (hb3.cell (p := ⟨gt, 0, none⟩) HG.out).trans q2; have f3 := ((HW.out.below HB2.out HGS.out).below hb3 HG.out).frozen 0; have HB3 := Lib.hid hb3; have HO3 := Lib.hid ho3; clear ho3 hb3 hg3 hd3))
  all_goals
    go_wp2_with fail
    go_end0
    refine ⟨rfl, A3, c3, ?_, ?_, ?_⟩
    · rw [List.length_append, HL.out]
      exact ((HW.out.below HB2.out HGS.out).below HB3.out HG.out).put_ 0 _
    · rw [List.length_append, HL.out, byts_append]
      exact own_far HO3.out (p := ⟨gt, 0, none⟩) (fun bb hh => by have h3 := (own_lt HO3.out bb hh).1; have h4 := HG.out; show bb ≠ gt; omega) _
    · exact (Fix.of_belowT (gr := gt) (gt := gt) (((Below.refl T w).drew.trans (HB2.out.mono HTD.out)).trans HB3.out)).trans (Fix.set w3 (p := ⟨gt, 0, none⟩) (.inr rfl) _)
set_option maxHeartbeats 4000000 in
theorem writer_text_any (w : World) (gr gt i : Nat) (s : ByteArray) (TR TW : TypeId) (cs : Array Value) (hr : Whole w gr TR cs) (hc : cs[i]? = some (.string s)) (hk : s.size ≤ 100) (T : Nat) (A : Option Addr) (c : Nat) (l : List UInt8) (L : Nat) (hL : l.length = L) (hl : L ≤ 10000)
    (ht : Whole w gt TW #[.slice A L c]) (ho : w.ownsRow T 5 1 (.slice A L c) L (byts l)) (hT : T ≤ w.heap.size) (h1 : gt < T) :
    Calls Try.prog 74 #[.pointer (some ⟨gt, 0, none⟩), .pointer (some ⟨gr, i, none⟩)] w fun en w' => en = .returned (.tuple #[]) ∧
      ∃ A' c', Whole w' gt TW #[.slice A' (l ++ (Var.put s.size ++ s.data.toList)).length c'] ∧ w'.ownsRow T 5 1 (.slice A' (l ++ (Var.put s.size ++ s.data.toList)).length c') (l ++ (Var.put s.size ++ s.data.toList)).length (byts (l ++ (Var.put s.size ++ s.data.toList))) ∧ Fix T gt gt w w' := by
  have hcall : ∀ w : World, Calls Try.prog 75 #[.string s] w (Fresh w.heap.size 5 1 (Var.put s.size ++ s.data.toList).length (byts (Var.put s.size ++ s.data.toList)) w) := fun w => text_any w s (Nat.le_trans hk (by decide))
  have hpl : (Var.put s.size ++ s.data.toList).length ≤ 110 := by have h := (Var.put_length s.size).2; rw [List.length_append, size_list]; omega
  obtain ⟨E, hE⟩ : ∃ E, Var.put s.size ++ s.data.toList = E := ⟨_, rfl⟩
  rw [hE] at hcall hpl ⊢
  have HC := Lib.hid hcall
  have HPL := Lib.hid hpl
  clear hE hcall hpl
  have q := (hr.cell i).trans hc
  have q1 := ht.cell 0
  simp at q1
  have HT := Lib.hid hT
  have HO := Lib.hid (show w.drew.ownsRow T 5 1 (.slice A L c) L (byts l) from ho)
  have HW := Lib.hid (show Whole w.drew gt TW #[.slice A L c] from ht)
  have HG := Lib.hid h1
  have HGS := Lib.hid (show gt < w.drew.heap.size from Nat.lt_of_lt_of_le h1 hT)
  have HTD := Lib.hid (show T ≤ w.drew.heap.size from hT)
  have HL := Lib.hid hL
  clear hr hc ht ho hT hL
  go_enter Try.func74, Try.ntmps74
  go_wp2_with fail
  go_region_law (first | (go_simp; go_at_call 75; refine (HC.out _).mono ?_; rintro en w2 ⟨D, c2, rfl, ho2, hb2⟩; have HB2 := Lib.hid hb2; have HO2 := Lib.hid ho2; have q2 := (hb2.cell (p := ⟨gt, 0, none⟩) HGS.out).trans q1; clear ho2 hb2) | (refine step_append_rd _ rfl (.tmp 8) (.tmp 12) 27 rfl bytesV T (.slice A L c) L (byts l) rfl (own_ext HO.out HB2.out) _ D _ c2 _ rfl (Rd.of_own HO2.out) (byts_one _) (by have := HPL.out; unfold maxLen; omega) (by have := HPL.out; omega) (Nat.le_trans HTD.out HB2.out.size) ?_; intro A3 c3 w3 ho3 hb3 hg3 hd3; have q3 := (hb3.cell (p := ⟨gt, 0, none⟩) HG.out).trans q2; have f3 := ((HW.out.below HB2.out HGS.out).below hb3 HG.out).frozen 0; have HB3 := Lib.hid hb3; have HO3 := Lib.hid ho3; clear ho3 hb3 hg3 hd3))
  all_goals
    go_wp2_with fail
    go_end0
    refine ⟨rfl, A3, c3, ?_, ?_, ?_⟩
    · rw [List.length_append, HL.out]
      exact ((HW.out.below HB2.out HGS.out).below HB3.out HG.out).put_ 0 _
    · rw [List.length_append, HL.out, byts_append]
      exact own_far HO3.out (p := ⟨gt, 0, none⟩) (fun bb hh => by have h3 := (own_lt HO3.out bb hh).1; have h4 := HG.out; show bb ≠ gt; omega) _
    · exact (Fix.of_belowT (gr := gt) (gt := gt) (((Below.refl T w).drew.trans (HB2.out.mono HTD.out)).trans HB3.out)).trans (Fix.set w3 (p := ⟨gt, 0, none⟩) (.inr rfl) _)
theorem writer_ahead (a : Addr) (w : World) : (nilAhead (Try.prog.types.size + Made.depth) 56 (.pointer (some a)) "chartroom/record.number").run Try.prog w = .ok (some false) w ∧ (nilAhead (Try.prog.types.size + Made.depth) 56 (.pointer (some a)) "chartroom/record.text").run Try.prog w = .ok (some false) w := by
  constructor <;> kernel_rfl
theorem writer_method (v : Value) (w : World) : (method 231 56 v "chartroom/record.number").run Try.prog w = .ok (73, v) w ∧ (method 231 56 v "chartroom/record.text").run Try.prog w = .ok (74, v) w := by
  constructor <;> kernel_rfl
theorem writer_enter (args : Array Value) (w : World) : (callFunc 73 args).run Try.prog w = .ok (.enter 73 args) w ∧ (callFunc 74 args).run Try.prog w = .ok (.enter 74 args) w := by
  constructor <;> kernel_rfl
/-- What is kept. -/
def WriteV (gr gt : Nat) (TR TW : TypeId) (r : Rc) (T : Nat) (l : List Nat) (w : World) : Prop :=
  gt < T ∧ gr < T ∧ Whole w gr TR r.cells ∧ ∃ A c, Whole w gt TW #[.slice A (r.enc l).length c] ∧ w.ownsRow T 5 1 (.slice A (r.enc l).length c) (r.enc l).length (byts (r.enc l))
theorem Rc.encStep_length (r : Rc) (i : Nat) (h : (r.tat i).size ≤ 100) : (r.encStep i).length ≤ 110 := by
  unfold Rc.encStep
  have h1 := (Var.put_length (r.at_ i)).2
  have h2 := (Var.put_length (r.tat i).size).2
  split
  · omega
  · rw [List.length_append, size_list]; omega
theorem Rc.enc_length (r : Rc) (h : ∀ i, (r.tat i).size ≤ 100) : ∀ l : List Nat, (r.enc l).length ≤ 110 * l.length
  | [] => by simp [Rc.enc]
  | i :: l => by
    have h1 := Rc.enc_length r h l
    have h2 := r.encStep_length i (h i)
    unfold Rc.enc at *
    rw [List.flatMap_cons, List.length_append, List.length_cons]
    omega
theorem visit_writer (w : World) (gr gt : Nat) (TR TW : TypeId) (r : Rc) (hok : r.ok) (hsz : ∀ i, (r.tat i).size ≤ 100) (hr : Whole w gr TR r.cells) (ht : Whole w gt TW #[.slice none 0 0]) (hne : gr ≠ gt) (A : Option Addr) (n c : Nat) (ps : List Nat) (hps : ∀ p ∈ ps, p < 8)
    (hA : Rd w w.heap.size 1 A n (smalls ps)) (hAb : 0 < n → ∀ b o, A = some ⟨b, o, none⟩ → b ≠ gr ∧ b ≠ gt) (hn : n ≤ 8) :
    Calls Try.prog 30 #[.pointer (some ⟨gr, 0, none⟩), .iface 56 (.pointer (some ⟨gt, 0, none⟩)), .slice A n c] w fun en w' => en = .returned (.tuple #[]) ∧
      Whole w' gr TR r.cells ∧ (∃ A c, Whole w' gt TW #[.slice A (r.enc ([1, 2, 3] ++ ps.map (· + 4))).length c] ∧ w'.ownsRow w.heap.size 5 1 (.slice A (r.enc ([1, 2, 3] ++ ps.map (· + 4))).length c) (r.enc ([1, 2, 3] ++ ps.map (· + 4))).length (byts (r.enc ([1, 2, 3] ++ ps.map (· + 4))))) ∧ Fix w.heap.size gr gt w w' := by
  refine (visit_any 56 73 74 (fun v w => (writer_method v w).1) (fun v w => (writer_method v w).2) (fun a w => (writer_enter a w).1) (fun a w => (writer_enter a w).2) (WriteV gr gt TR TW r) w gr gt
    (fun w => (writer_ahead _ w).1) (fun w => (writer_ahead _ w).2) hr.lt ht.lt A n c ps hps hA hAb hn (fun Tm w1 hb hT _ => ⟨Nat.lt_of_lt_of_le ht.lt hT, Nat.lt_of_lt_of_le hr.lt hT, hr.below hb hr.lt, none, 0, ht.below hb ht.lt, w1.ownsRow_nil _ _ _⟩) (fun Tm l w1 w2 hv hb => by
      obtain ⟨h1, h0, h2, A, c, h3, h4⟩ := hv
      exact ⟨h1, h0, h2.below hb h2.lt, A, c, h3.below hb h3.lt, own_ext h4 hb⟩) ?_ ?_).mono ?_
  · intro Tm l i w1 _ hTs hv hl h1 h2
    obtain ⟨h3, h0, h4, A, c, h5, h6⟩ := hv
    have hle := Rc.enc_length r hsz l
    refine (writer_number_any w1 gr gt i _ TR TW _ h4 (Rc.cells_at _ h1 h2) (Rc.ok_at hok i) Tm A c (r.enc l) _ rfl (by omega) h5 h6 hTs h3).mono ?_
    rintro en w2 ⟨rfl, A', c', h7, h8, h9⟩
    have he : r.enc (l ++ [i]) = r.enc l ++ Var.put (r.at_ i) := by rw [Rc.enc_snoc]; unfold Rc.encStep; rw [if_pos h2]
    exact ⟨rfl, ⟨h3, h0, (h9.block gr h0 hne hne).trans h4, A', c', by rw [he]; exact h7, by rw [he]; exact h8⟩, ⟨h9.os, h9.tape, h9.output, h9.size, fun k hk _ h' => h9.block k hk h' h'⟩⟩
  · intro Tm l i w1 _ hTs hv hl h1
    obtain ⟨h3, h0, h4, A, c, h5, h6⟩ := hv
    have hle := Rc.enc_length r hsz l
    refine (writer_text_any w1 gr gt i _ TR TW _ h4 (Rc.cells_tat _ h1) (hsz i) Tm A c (r.enc l) _ rfl (by omega) h5 h6 hTs h3).mono ?_
    rintro en w2 ⟨rfl, A', c', h7, h8, h9⟩
    have he : r.enc (l ++ [i]) = r.enc l ++ (Var.put (r.tat i).size ++ (r.tat i).data.toList) := by rw [Rc.enc_snoc]; unfold Rc.encStep; rw [if_neg (by omega)]
    exact ⟨rfl, ⟨h3, h0, (h9.block gr h0 hne hne).trans h4, A', c', by rw [he]; exact h7, by rw [he]; exact h8⟩, ⟨h9.os, h9.tape, h9.output, h9.size, fun k hk _ h' => h9.block k hk h' h'⟩⟩
  · rintro en w' ⟨he, Tm, hT, ⟨_, _, hv1, A', c', hv2, hv3⟩, w0, hb, hf⟩
    exact ⟨he, hv1, ⟨A', c', hv2, own_base hv3 hT⟩, (Fix.of_below hb (Nat.le_refl _)).trans (hf.mono hT)⟩
end Go.Proofs.Ytmobgamlednlhaa
