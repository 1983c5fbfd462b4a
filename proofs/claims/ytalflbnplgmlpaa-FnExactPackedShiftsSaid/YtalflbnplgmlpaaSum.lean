/-
  Contracts: the sum of two sets.
-/
import Derived.Test.YtalflbnplgmlpaaShift
namespace Go.Proofs.Ytalflbnplgmlpaa
open Go.RowKit

/-- the sums whose first element stands before place k -/
def sumTo (m K : List Nat) (B k : Nat) : Nat := ofL ((K.take k).flatMap fun x => (mem B).map fun y => addN m x y)
theorem sumTo_zero (m K : List Nat) (B : Nat) : sumTo m K B 0 = 0 := rfl
theorem sumTo_lt {m : List Nat} (hm : Ok m) (K : List Nat) (B k : Nat) : sumTo m K B k < 16777216 := ofL_bound fun i hi => by
  simp only [List.mem_flatMap, List.mem_map] at hi; obtain ⟨x, _, y, _, rfl⟩ := hi; exact hm.add24 x y
theorem shiftN_lt {m : List Nat} (hm : Ok m) (A x : Nat) : shiftN m A x < 16777216 := ofL_bound (map_add24 hm x (mem A))
theorem sumN_lt {m : List Nat} (hm : Ok m) (A B : Nat) : sumN m A B < 16777216 := Nat.lt_of_lt_of_le (hm.sum_lt A B) hm.pow_le
theorem sumTo_step {m : List Nat} (hm : Ok m) {K : List Nat} {B k x : Nat} (hk : k < K.length) (hx : K.getD k 0 = x) : bits BinOp.or IntKind.i64 ((sumTo m K B k : Nat) : Int) ((shiftN m B x : Nat) : Int) = ((sumTo m K B (k + 1) : Nat) : Int) := by
  have e : sumTo m K B (k + 1) = sumTo m K B k ||| shiftN m B x := by
    unfold sumTo shiftN; rw [take_snoc K 0 k hk, List.flatMap_append, ofL_append, hx]; simp
  rw [e]
  exact bits_or_nat _ _ (by have := sumTo_lt hm K B k; omega) (by have := shiftN_lt hm B x; omega)
theorem sumTo_end {m : List Nat} {A B k : Nat} (hk : (mem A).length ≤ k) : sumTo m (mem A) B k = sumN m A B := by
  unfold sumTo sumN; rw [List.take_of_length_le hk]
theorem sumN_comm (m : List Nat) (A B : Nat) : sumN m A B = sumN m B A := by
  unfold sumN; apply ofL_congr; intro i
  simp only [List.mem_flatMap, List.mem_map]
  constructor
  · rintro ⟨x, hx, y, hy, rfl⟩; exact ⟨y, hy, x, hx, addN_comm m y x⟩
  · rintro ⟨x, hx, y, hy, rfl⟩; exact ⟨y, hy, x, hx, addN_comm m y x⟩
end Go.Proofs.Ytalflbnplgmlpaa
