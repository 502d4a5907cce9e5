/-
  The walk of VarintTakes: it returns true.
-/
import Derived.Test.YtmobgamlednlhaaVarWorks
import Derived.OpenShut
namespace Go.Proofs.Ytmobgamlednlhaa
open Go.RowKit
theorem natv_length (xs : List Nat) : (natv xs).length = xs.length := List.length_map _
theorem natv_get {xs : List Nat} {k : Nat} (h : k < xs.length) : (natv xs)[k]? = some (.int .u64 ((xs[k] : Nat) : Int)) := by
  unfold natv
  rw [List.getElem?_map, List.getElem?_eq_getElem h]
  rfl
theorem Rd.natn {w : World} {B n : Nat} {A : Option Addr} {l : List Nat} (h : Rd w B 1 A n (natv l)) : l.length = n := by have := h.1; rw [natv_length] at this; omega
theorem Rd.nat {w : World} {B n : Nat} {A : Option Addr} {l : List Nat} {k : Nat} (h : Rd w B 1 A n (natv l)) (hk : k < n) : ∃ b o, ∃ hl : k < l.length, A = some ⟨b, o, none⟩ ∧ b < B ∧ w.cell? ⟨b, o + k, none⟩ = some (.int .u64 ((l[k] : Nat) : Int)) := by
  have hl : k < l.length := by have := h.1; rw [natv_length] at this; omega
  obtain ⟨b, o, u, e, hb, hu, hc⟩ := h.at_ hk
  rw [natv_get hl] at hu
  cases hu
  exact ⟨b, o, hl, e, hb, hc⟩
theorem refTake_at (w : World) (A : Option Addr) (n cap : Nat) (b : List UInt8) (B : Nat) (hB : B ≤ w.heap.size) (h : Rd w B 1 A n (byts b)) (hm : n ≤ 100000000) (p : Int) (hp1 : -9223372036854775808 ≤ p) (hp2 : p ≤ 9223372036854775807) (v : Nat) (nx : Int) (e : Nat) (he : Var.take b p = (v, nx, e)) :
    Calls Try.prog 38 #[.slice A n cap, .int .i64 p] w fun en w' => en = .returned (.tuple #[.int .u64 (v : Nat), .int .i64 nx, .int .i64 (e : Nat)]) ∧ Below w.heap.size w w' := by
  have h := refTake_any w A n cap b B hB h hm p hp1 hp2
  rw [he] at h
  exact h
theorem refTakeText_at (w : World) (A : Option Addr) (n cap : Nat) (b : List UInt8) (B : Nat) (hB : B ≤ w.heap.size) (h : Rd w B 1 A n (byts b)) (hc : n ≤ cap) (hm : n ≤ 100000000) (p : Int) (hp1 : -9223372036854775808 ≤ p) (hp2 : p ≤ 9223372036854775807) (v : List UInt8) (nx : Int) (e : Nat) (he : Var.ttext b p = (v, nx, e)) :
    Calls Try.prog 37 #[.slice A n cap, .int .i64 p] w fun en w' => en = .returned (.tuple #[.string ⟨v.toArray⟩, .int .i64 nx, .int .i64 (e : Nat)]) ∧ Below w.heap.size w w' := by
  have h := refTakeText_any w A n cap b B hB h hc hm p hp1 hp2
  rw [he] at h
  exact h
theorem refTakeAll_at (w : World) (A : Option Addr) (n cap : Nat) (b : List UInt8) (B : Nat) (hB : B ≤ w.heap.size) (h : Rd w B 1 A n (byts b)) (hm : n ≤ 100000000) (p : Int) (hp1 : -9223372036854775808 ≤ p) (hp2 : p ≤ 9223372036854775807)
    (many : Int) (hm2 : many ≤ 100000) (vs : List Nat) (nx : Int) (er : Nat) (L : Nat) (hL : vs.length = L) (he : Var.rall b many.toNat p = (vs, nx, er)) :
    Calls Try.prog 36 #[.slice A n cap, .int .i64 p, .int .i64 many] w fun e w' => ∃ D c, e = .returned (.tuple #[.slice D L c, .int .i64 nx, .int .i64 (er : Nat)]) ∧
      w'.ownsRow w.heap.size 22 1 (.slice D L c) L (natv vs) ∧ Below w.heap.size w w' := by
  refine (refTakeAll_any w A n cap b B hB h hm p hp1 hp2 many hm2 _ rfl).mono ?_
  rintro e w' ⟨D, L2, c, rfl, ho, hb⟩
  rw [he] at ho ⊢
  have h1 : vs.length = L2 := (Rd.of_own ho).natn
  obtain rfl : L = L2 := by omega
  exact ⟨D, c, rfl, ho, hb⟩
theorem Var.tall_length (b : List UInt8) : ∀ (k : Nat) (p : Int) (acc : List Nat), (Var.tall b k p acc).1.length ≤ acc.length + k
  | 0, p, acc => by simp [Var.tall]
  | k + 1, p, acc => by
    unfold Var.tall
    split
    · have := Var.tall_length b k (Var.take b p).2.1 (acc ++ [(Var.take b p).1])
      simp at this
      omega
    · simp
theorem Var.rall_length (b : List UInt8) (k : Nat) (p : Int) : (Var.rall b k p).1.length ≤ k := by
  unfold Var.rall
  split
  · have := Var.tall_length b k p []
    simpa using this
  · simp
end Go.Proofs.Ytmobgamlednlhaa
