/-
  Contracts: negatives, lists of elements, shifts.
-/
import Derived.Test.YtdokgobofapmhaaAdd
import Derived.Deep.RegionHeld3
namespace Go.Proofs.Ytdokgobofapmhaa
open Go.RowKit

/-! ### negative -/
theorem neg_lt_step {S U o r : Nat} (hS : S < U) (hr : r < o) : S + r * U < U * o := add_lt_step hS hr
theorem wrap_neg {S U o X : Nat} (hS : S < U) (ho : 2 ≤ o) (hU : U * o ≤ 24) : wrap64 ((S : Int) + wrap64 (-((X : Int) % (o : Int)) % (o : Int) * (U : Int))) = ((S + (o - X % o) % o * U : Nat) : Int) := by
  have h := add_lt_step (o := o) hS (Nat.mod_lt (o - X % o) (show o > 0 by omega))
  have hx := Nat.mod_lt X (show o > 0 by omega)
  have e : -((X : Int) % (o : Int)) % (o : Int) * (U : Int) = (((o - X % o) % o * U : Nat) : Int) := by
    rw [show -((X : Int) % (o : Int)) % (o : Int) = ((o : Int) - (X : Int) % (o : Int)) % (o : Int) from by simp]
    rw [Int.natCast_mul, Int.natCast_emod, Int.natCast_sub (by omega), Int.natCast_emod]
  rw [e]
  generalize (o - X % o) % o * U = q at *
  rw [IntWalk.wrap64_in (q : Int) (by omega), IntWalk.wrap64_in _ (by omega)]
  simp
theorem negN_step {m : List Nat} {k X S U x : Nat} (hk : k < m.length) (h : S + U * negN (m.drop k) X = negN m x) :
    S + (m.getD k 0 - X % m.getD k 0) % m.getD k 0 * U + U * m.getD k 0 * negN (m.drop (k + 1)) (X / m.getD k 0) = negN m x := by
  rw [← h, drop_cons m 0 k hk]
  generalize m.getD k 0 = o
  simp only [negN]
  rw [Nat.mul_add, Nat.mul_assoc, Nat.mul_comm U ((o - X % o) % o), Nat.add_assoc]
theorem negN_end {m : List Nat} {k X S U x : Nat} (hk : m.length ≤ k) (h : S + U * negN (m.drop k) X = negN m x) : S = negN m x := by
  rw [← h, List.drop_of_length_le hk]; simp [negN]
end Go.Proofs.Ytdokgobofapmhaa
