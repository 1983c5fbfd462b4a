/-
  Contracts: numbers reckoned out of the sizes of sums.
-/
import Derived.Test.YtickcopllojchaaSum
import Derived.Test.YtickcopllojchaaFull
import Derived.Test.YtickcopllojchaaBits
namespace Go.Proofs.Ytickcopllojchaa
open Go.RowKit

theorem mul24 {a b : Nat} (ha : a ≤ 24) (hb : b ≤ 24) : 0 ≤ (a : Int) * (b : Int) ∧ (a : Int) * (b : Int) ≤ 576 := by
  have h : a * b ≤ 24 * 24 := Nat.mul_le_mul ha hb
  have h2 : ((a * b : Nat) : Int) ≤ 576 := by omega
  exact ⟨Int.mul_nonneg (by omega) (by omega), by simpa using h2⟩
theorem gap_wrap {a b c d : Nat} (ha : a ≤ 24) (hb : b ≤ 24) (hc : c ≤ 24) (hd : d ≤ 24) :
    IntKind.i64.wrap (IntKind.i64.wrap ((a : Int) * (b : Int)) - IntKind.i64.wrap ((c : Int) * (d : Int))) = (a : Int) * (b : Int) - (c : Int) * (d : Int) := by
  have h1 := mul24 ha hb
  have h2 := mul24 hc hd
  generalize (a : Int) * (b : Int) = p at *
  generalize (c : Int) * (d : Int) = q at *
  rw [IntKind.wrap_i64, IntKind.wrap_i64, IntKind.wrap_i64]; omega

def defectF (l : List Int) (a b : Int) : Int := if full l a b = true then ((card (sumN (toN l) a.toNat b.toNat) : Nat) : Int) - (card a.toNat : Nat) - (card b.toNat : Nat) + 1 else -100
theorem defectF_yes {m : List Nat} {A B : Nat} (h : full (cst m) A B = true) : defectF (cst m) A B = ((card (sumN m A B) : Nat) : Int) - (card A : Nat) - (card B : Nat) + 1 := by
  unfold defectF; rw [if_pos h, toN_cst, Int.toNat_natCast, Int.toNat_natCast]
theorem defectF_no {l : List Int} {a b : Int} (h : full l a b = false) : defectF l a b = -100 := by unfold defectF; rw [if_neg (by simp [h])]

/-! ### the gap of Petridis -/
def petGap (m : List Nat) (X B C : Nat) : Int := ((card (sumN m X B) : Nat) : Int) * (card (sumN m X C) : Nat) - ((card (sumN m (sumN m X B) C) : Nat) : Int) * (card X : Nat)
def petF (l : List Int) (x b c : Int) : Int := if three l x b c = true then petGap (toN l) x.toNat b.toNat c.toNat else -1
theorem petF_yes {m : List Nat} {X B C : Nat} (h : three (cst m) X B C = true) : petF (cst m) X B C = petGap m X B C := by
  unfold petF; rw [if_pos h, toN_cst, Int.toNat_natCast, Int.toNat_natCast, Int.toNat_natCast]
theorem petF_no {l : List Int} {x b c : Int} (h : three l x b c = false) : petF l x b c = -1 := by unfold petF; rw [if_neg (by simp [h])]
end Go.Proofs.Ytickcopllojchaa
