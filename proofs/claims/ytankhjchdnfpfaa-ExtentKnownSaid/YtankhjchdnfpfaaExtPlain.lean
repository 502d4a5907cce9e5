/-
  Files in parts: what each call leaves. Plain Lean, no function of the program in sight.
-/
import Derived.Test.YtankhjchdnfpfaaAppend
namespace Go.Proofs.Ytankhjchdnfpfaa
open Go.RowKit
/-- A part: its bytes, and whether it is durable. -/
abbrev Pa := List UInt8 × Bool
namespace Exn
def some_ (p : Pa) : Bool := decide (0 < p.1.length)
def tidy (fs : List Pa) : List Pa := fs.filter some_
def put (fs : List Pa) (b : List UInt8) (d : Bool) : List Pa := if 0 < b.length then fs ++ [(b, d)] else fs
def app (fs : List Pa) (b : List UInt8) : List Pa := tidy (fs ++ [(b, false)])
def sync (fs : List Pa) : List Pa := (tidy fs).map fun p => (p.1, true)
/-- Which parts stay; what was told is used up part by part. -/
def stays : List Pa → List Bool → List Bool
  | [], _ => []
  | p :: ps, ks => (p.2 || ks.headD false) :: stays ps (if p.2 then ks else ks.tail)
/-- How many there are up to the last that stays. -/
def lastOf (s : List Bool) : Nat := (s.reverse.dropWhile fun b => !b).length
def after (p : Pa) (s : Bool) : Pa := (if s then p.1 else List.replicate p.1.length 0, true)
def fail (fs : List Pa) (ks : List Bool) : List Pa := ((List.zipWith after (tidy fs) (stays (tidy fs) ks)).take (lastOf (stays (tidy fs) ks)))
def bytes (fs : List Pa) : List UInt8 := fs.flatMap (·.1)
def vol (fs : List Pa) : Nat := (fs.filter fun p => !p.2 && some_ p).length
theorem tidy_append (a b : List Pa) : tidy (a ++ b) = tidy a ++ tidy b := List.filter_append ..
theorem tidy_one (p : Pa) : tidy [p] = if 0 < p.1.length then [p] else [] := by
  unfold tidy some_
  by_cases h : 0 < p.1.length <;> simp [List.filter, h]
theorem put_eq (fs : List Pa) (b : List UInt8) (d : Bool) : put fs b d = fs ++ tidy [(b, d)] := by
  unfold put
  rw [tidy_one]
  by_cases h : 0 < b.length <;> simp [h]
theorem app_eq (fs : List Pa) (b : List UInt8) : app fs b = put (tidy fs) b false := by
  rw [put_eq]
  exact tidy_append ..
theorem tidy_le (fs : List Pa) : (tidy fs).length ≤ fs.length := List.length_filter_le ..
theorem tidy_mem {fs : List Pa} {p : Pa} (h : p ∈ tidy fs) : p ∈ fs ∧ 0 < p.1.length := by
  have := List.mem_filter.1 h
  exact ⟨this.1, by have := this.2; unfold some_ at this; simpa using this⟩
theorem tidy_tidy (fs : List Pa) : tidy (tidy fs) = tidy fs := by unfold tidy; rw [List.filter_filter]; simp
theorem tidy_all {fs : List Pa} (h : ∀ p ∈ fs, 0 < p.1.length) : tidy fs = fs := List.filter_eq_self.2 fun p hp => by unfold some_; simpa using h p hp
theorem stays_length (fs : List Pa) (ks : List Bool) : (stays fs ks).length = fs.length := by
  induction fs generalizing ks with
  | nil => rfl
  | cons p ps ih => simp [stays, ih]
theorem lastOf_snoc (s : List Bool) (b : Bool) : lastOf (s ++ [b]) = if b then s.length + 1 else lastOf s := by
  unfold lastOf
  cases b <;> simp
theorem lastOf_le (s : List Bool) : lastOf s ≤ s.length := by
  unfold lastOf
  have := (List.dropWhile_sublist (l := s.reverse) (fun b => !b)).length_le
  simpa using this
theorem lastOf_take {s : List Bool} {n : Nat} (hn : n < s.length) : lastOf (s.take (n + 1)) = if s[n] then n + 1 else lastOf (s.take n) := by
  rw [List.take_succ_eq_append_getElem hn, lastOf_snoc, List.length_take, Nat.min_eq_left (by omega)]
theorem fail_length (fs : List Pa) (ks : List Bool) : (fail fs ks).length = lastOf (stays (tidy fs) ks) := by
  unfold fail
  have := lastOf_le (stays (tidy fs) ks)
  rw [stays_length] at this
  rw [List.length_take, List.length_zipWith, stays_length]
  omega
theorem fail_get {fs : List Pa} {ks : List Bool} {j : Nat} (h : j < (fail fs ks).length) (h1 : j < (tidy fs).length) (h2 : j < (stays (tidy fs) ks).length) : (fail fs ks)[j] = after (tidy fs)[j] (stays (tidy fs) ks)[j] := by
  have e : fail fs ks = (List.zipWith after (tidy fs) (stays (tidy fs) ks)).take (lastOf (stays (tidy fs) ks)) := rfl
  rw [List.getElem_of_eq e h, List.getElem_take, List.getElem_zipWith]
/-- What is left to be told, part by part. -/
theorem stays_step (pre : List Bool) (p : Pa) (ps : List Pa) (ks : List Bool) {S : List Bool} (h : pre ++ stays (p :: ps) ks = S) : (pre ++ [p.2 || ks.headD false]) ++ stays ps (if p.2 then ks else ks.tail) = S := by
  rw [← h]
  simp [stays]
theorem bytes_append (a b : List Pa) : bytes (a ++ b) = bytes a ++ bytes b := List.flatMap_append ..
theorem bytes_one (p : Pa) : bytes [p] = p.1 := by unfold bytes; simp
theorem bytes_tidy (fs : List Pa) : bytes (tidy fs) = bytes fs := by
  induction fs with
  | nil => rfl
  | cons p ps ih =>
    have e : p :: ps = [p] ++ ps := rfl
    rw [e, tidy_append, bytes_append, bytes_append, ih, tidy_one]
    by_cases h : 0 < p.1.length
    · rw [if_pos h]
    · rw [if_neg h, bytes_one]
      have : p.1 = [] := List.eq_nil_of_length_eq_zero (by omega)
      rw [this]
      rfl
theorem vol_snoc (fs : List Pa) (p : Pa) : vol (fs ++ [p]) = vol fs + if !p.2 && some_ p then 1 else 0 := by
  unfold vol
  rw [List.filter_append, List.length_append]
  by_cases h : (!p.2 && some_ p) = true <;> simp [List.filter, h]
end Exn
theorem below1 (w : World) (o : Obj) : Below w.heap.size w (w.alloc o) := (Below.refl _ _).alloc (Nat.le_refl _) _
theorem own_base {w : World} {base base' : Nat} {e : TypeId} {s n : Nat} {v : Value} {xs : List Value} (h : w.ownsRow base' e s v n xs) (hb : base ≤ base') : w.ownsRow base e s v n xs :=
  ⟨h.1, h.2.imp id fun ⟨g, cap, cur, hv, hg, hr⟩ => ⟨g, cap, cur, hv, Nat.le_trans hb hg, hr⟩⟩
/-- The cells vs are those of parts, each part's bytes in a row of its own. -/
def OwnPa (w : World) (G : Nat → Prop) (te : TypeId) (fs : List Pa) (vs : List Value) : Prop :=
  vs.length = fs.length * 2 ∧ ∀ j (hj : j < fs.length), ∃ A c, vs[j * 2]? = some (.slice A fs[j].1.length c) ∧ vs[j * 2 + 1]? = some (.bool fs[j].2) ∧ w.ownsRow 0 te 1 (.slice A fs[j].1.length c) fs[j].1.length (byts fs[j].1) ∧ ∀ g o, A = some ⟨g, o, none⟩ → G g
theorem OwnPa.nil (w : World) (G : Nat → Prop) (te : TypeId) : OwnPa w G te [] [] := ⟨rfl, fun j hj => absurd hj (by simp)⟩
theorem OwnPa.keep {w w' : World} {G : Nat → Prop} {te : TypeId} {fs : List Pa} {vs : List Value} (h : OwnPa w G te fs vs) (hk : ∀ v n xs, w.ownsRow 0 te 1 v n xs → w'.ownsRow 0 te 1 v n xs) : OwnPa w' G te fs vs :=
  ⟨h.1, fun j hj => by obtain ⟨A, c, h1, h2, h3, h4⟩ := h.2 j hj; exact ⟨A, c, h1, h2, hk _ _ _ h3, h4⟩⟩
theorem OwnPa.weak {w : World} {G G' : Nat → Prop} {te : TypeId} {fs : List Pa} {vs : List Value} (h : OwnPa w G te fs vs) (hk : ∀ g, g < w.heap.size → G g → G' g) : OwnPa w G' te fs vs :=
  ⟨h.1, fun j hj => by
    obtain ⟨A, c, h1, h2, h3, h4⟩ := h.2 j hj
    refine ⟨A, c, h1, h2, h3, fun g o e => hk g ?_ (h4 g o e)⟩
    subst e
    rcases h3.2 with ⟨hv, _⟩ | ⟨g', cap, cur, hv, _, hh, _⟩
    · cases hv
    · injection hv with e1
      injection e1 with e1
      injection e1 with e1
      subst e1
      exact (Array.getElem?_eq_some_iff.1 hh).1⟩
theorem OwnPa.ext {w w' : World} {G : Nat → Prop} {te : TypeId} {fs : List Pa} {vs : List Value} (h : OwnPa w G te fs vs) (k : Below w.heap.size w w') : OwnPa w' G te fs vs := h.keep fun _ _ _ ho => own_ext ho k
theorem OwnPa.kept {w w' : World} {G : Nat → Prop} {base' : Nat} {te tr : TypeId} {s' n' : Nat} {u : Value} {fs : List Pa} {vs ys : List Value} (h : OwnPa w G te fs vs) (hg : w.grownBy w' u.ownBlock) (hu : w.ownsRow base' tr s' u n' ys) (hne : te ≠ tr) :
    OwnPa w' G te fs vs := h.keep fun _ _ _ ho => own_kept ho hg hu hne
theorem OwnPa.snoc {w : World} {G : Nat → Prop} {te : TypeId} {fs : List Pa} {vs : List Value} (h : OwnPa w G te fs vs) {l : List UInt8} {d : Bool} {A : Option Addr} {c n : Nat} (hn : l.length = n) (ho : w.ownsRow 0 te 1 (.slice A n c) n (byts l)) (hG : ∀ g o, A = some ⟨g, o, none⟩ → G g) :
    OwnPa w G te (fs ++ [(l, d)]) (vs ++ [.slice A n c, .bool d]) := by
  subst hn
  refine ⟨by simp [h.1]; omega, fun j hj => ?_⟩
  rw [List.length_append, List.length_singleton] at hj
  by_cases hlt : j < fs.length
  · obtain ⟨A', c', h1, h2, h3, h5⟩ := h.2 j hlt
    rw [List.getElem_append_left hlt]
    exact ⟨A', c', by rw [List.getElem?_append_left (by rw [h.1]; omega)]; exact h1, by rw [List.getElem?_append_left (by rw [h.1]; omega)]; exact h2, h3, h5⟩
  · obtain rfl : j = fs.length := by omega
    rw [List.getElem_concat_length rfl]
    refine ⟨A, c, ?_, ?_, ho, hG⟩
    · rw [← h.1, List.getElem?_append_right (Nat.le_refl _)]; simp
    · rw [← h.1, List.getElem?_append_right (by omega)]; simp
/-- A part put in the place of another. -/
theorem OwnPa.put {w : World} {G : Nat → Prop} {te : TypeId} {fs : List Pa} {vs : List Value} (h : OwnPa w G te fs vs) {i : Nat} (hi : i < fs.length) {l : List UInt8} {d : Bool} {A : Option Addr} {c n : Nat} (hn : l.length = n) (ho : w.ownsRow 0 te 1 (.slice A n c) n (byts l)) (hG : ∀ g o, A = some ⟨g, o, none⟩ → G g) :
    OwnPa w G te (fs.set i (l, d)) ((vs.set (i * 2) (.slice A n c)).set (i * 2 + 1) (.bool d)) := by
  subst hn
  refine ⟨by simp [h.1], fun j hj => ?_⟩
  rw [List.length_set] at hj
  by_cases he : j = i
  · subst he
    rw [List.getElem_set_self]
    have h1 := h.1
    refine ⟨A, c, ?_, ?_, ho, hG⟩
    · rw [List.getElem?_set_ne (by omega), List.getElem?_set_self (by omega)]
    · rw [List.getElem?_set_self (by rw [List.length_set]; omega)]
  · obtain ⟨A', c', h1, h2, h3, h5⟩ := h.2 j hj
    rw [List.getElem_set_ne (by omega)]
    refine ⟨A', c', ?_, ?_, h3, h5⟩
    · rw [List.getElem?_set_ne (by omega), List.getElem?_set_ne (by omega)]; exact h1
    · rw [List.getElem?_set_ne (by omega), List.getElem?_set_ne (by omega)]; exact h2
theorem OwnPa.take {w : World} {G : Nat → Prop} {te : TypeId} {fs : List Pa} {vs : List Value} (h : OwnPa w G te fs vs) {i : Nat} (hi : i ≤ fs.length) : OwnPa w G te (fs.take i) (vs.take (i * 2)) := by
  have h0 := h.1
  refine ⟨by rw [List.length_take, List.length_take, h0]; omega, fun j hj => ?_⟩
  rw [List.length_take] at hj
  obtain ⟨A, c, h1, h2, h3, h5⟩ := h.2 j (by omega)
  rw [List.getElem_take]
  exact ⟨A, c, by rw [List.getElem?_take_of_lt (by omega)]; exact h1, by rw [List.getElem?_take_of_lt (by omega)]; exact h2, h3, h5⟩
theorem OwnPa.one {w : World} {G : Nat → Prop} {te : TypeId} {fs : List Pa} {vs : List Value} (h : OwnPa w G te fs vs) : ∀ u ∈ vs, u.oneCell' = true := by
  intro u hu
  obtain ⟨i, hi, rfl⟩ := List.mem_iff_getElem.1 hu
  have h0 := h.1
  obtain ⟨A, c, h1, h2, _⟩ := h.2 (i / 2) (by omega)
  rcases Nat.mod_two_eq_zero_or_one i with e | e
  · rw [show i / 2 * 2 = i from by omega, List.getElem?_eq_getElem hi] at h1
    injection h1 with h1
    rw [h1]
    rfl
  · rw [show i / 2 * 2 + 1 = i from by omega, List.getElem?_eq_getElem hi] at h2
    injection h2 with h2
    rw [h2]
    rfl
/-- A row of parts that reads as fs, all below block B. -/
def RdPa (w : World) (B : Nat) (A : Option Addr) (N : Nat) (fs : List Pa) : Prop :=
  fs.length = N ∧ ∀ j (hj : j < fs.length), ∃ b o A' c, A = some ⟨b, o, none⟩ ∧ b < B ∧ w.cell? ⟨b, o + j * 2, none⟩ = some (.slice A' fs[j].1.length c) ∧ w.cell? ⟨b, o + j * 2 + 1, none⟩ = some (.bool fs[j].2) ∧ fs[j].1.length ≤ c ∧ c ≤ maxLen ∧ Rd w B 1 A' fs[j].1.length (byts fs[j].1)
theorem RdPa.keep {w w' : World} {B N : Nat} {A : Option Addr} {fs : List Pa} (h : RdPa w B A N fs) (hk : ∀ p : Addr, p.block < B → w'.cell? p = w.cell? p) : RdPa w' B A N fs :=
  ⟨h.1, fun j hj => by
    obtain ⟨b, o, A', c, e, hb, h1, h2, h3, h4, hr⟩ := h.2 j hj
    exact ⟨b, o, A', c, e, hb, (hk _ hb).trans h1, (hk _ hb).trans h2, h3, h4, hr.keep hk⟩⟩
theorem RdPa.more {w : World} {B B' N : Nat} {A : Option Addr} {fs : List Pa} (h : RdPa w B A N fs) (hB : B ≤ B') : RdPa w B' A N fs :=
  ⟨h.1, fun j hj => by
    obtain ⟨b, o, A', c, e, hb, h1, h2, h3, h4, hr⟩ := h.2 j hj
    exact ⟨b, o, A', c, e, by omega, h1, h2, h3, h4, hr.more hB⟩⟩
theorem RdPa.below {w w' : World} {B N : Nat} {A : Option Addr} {fs : List Pa} (h : RdPa w B A N fs) (hb : Below B w w') : RdPa w' B A N fs := h.keep fun _ hp => hb.cell hp
theorem RdPa.of_own {w : World} {base N c : Nat} {G : Nat → Prop} {tf te : TypeId} {A : Option Addr} {fs : List Pa} {vs : List Value} (hl : fs.length = N) (h : w.ownsRow base tf 2 (.slice A N c) N vs) (hf : OwnPa w G te fs vs) : RdPa w w.heap.size A N fs := by
  subst hl
  refine ⟨rfl, fun j hj => ?_⟩
  obtain ⟨b, o, e, hb, hc⟩ := (Rd.of_own h).2 (by omega)
  obtain ⟨A', c', h1, h2, h3, h5⟩ := hf.2 j hj
  exact ⟨b, o, A', c', e, hb, hc _ _ h1, hc _ _ h2, (own_cap h3).1, (own_cap h3).2, Rd.of_own h3⟩
/-- A file: its row of parts, and their bytes, all in memory of one's own. -/
def File (w : World) (G : Nat → Prop) (tp te : TypeId) (A : Option Addr) (n c : Nat) (fs : List Pa) : Prop :=
  fs.length = n ∧ ∃ vs, w.ownsRow 0 tp 2 (.slice A n c) n vs ∧ OwnPa w G te fs vs
theorem File.nil (w : World) (G : Nat → Prop) (tp te : TypeId) : File w G tp te none 0 0 [] := ⟨rfl, [], World.ownsRow_nil _ _ _ _, OwnPa.nil _ _ _⟩
theorem File.ext {w w' : World} {n c : Nat} {G : Nat → Prop} {tp te : TypeId} {A : Option Addr} {fs : List Pa} (h : File w G tp te A n c fs) (k : Below w.heap.size w w') : File w' G tp te A n c fs := by
  obtain ⟨h0, vs, h1, h2⟩ := h
  exact ⟨h0, vs, own_ext h1 k, h2.ext k⟩
theorem File.rd {w : World} {n c : Nat} {G : Nat → Prop} {tp te : TypeId} {A : Option Addr} {fs : List Pa} (h : File w G tp te A n c fs) : RdPa w w.heap.size A n fs := by
  obtain ⟨h0, vs, h1, h2⟩ := h
  exact RdPa.of_own h0 h1 h2
/-- A row of another type, grown: an owned row stays. -/
theorem own_far {w w' : World} {base s n g : Nat} {te t : TypeId} {v : Value} {xs : List Value} {cs : Array Value} (h : w.ownsRow base te s v n xs) (hw : Whole w g t cs) (hg : w.grownBy w' (some g)) (hne : te ≠ t) : w'.ownsRow base te s v n xs := by
  refine h.kept hg ?_
  rcases h.2 with ⟨rfl, _⟩ | ⟨k, cap, cur, rfl, _, hh, _⟩
  · exact .inl rfl
  · right
    intro e
    have e2 : k = g := by simpa [Value.ownBlock] using e
    subst e2
    unfold Whole at hw
    rw [hh] at hw
    injection hw with h1
    injection h1 with _ h2
    exact hne h2
theorem File.far {w w' : World} {n c g : Nat} {G : Nat → Prop} {tp te t : TypeId} {A : Option Addr} {fs : List Pa} {cs : Array Value} (h : File w G tp te A n c fs) (hw : Whole w g t cs) (hg : w.grownBy w' (some g)) (h1 : tp ≠ t) (h2 : te ≠ t) : File w' G tp te A n c fs := by
  obtain ⟨h0, vs, h3, h4⟩ := h
  exact ⟨h0, vs, own_far h3 hw hg h1, h4.keep fun _ _ _ ho => own_far ho hw hg h2⟩
end Go.Proofs.Ytankhjchdnfpfaa
