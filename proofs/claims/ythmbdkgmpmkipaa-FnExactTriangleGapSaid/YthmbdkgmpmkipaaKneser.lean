/-
  Contracts: the bound of Kneser.
-/
import Derived.Test.YthmbdkgmpmkipaaStab
import Derived.Test.YthmbdkgmpmkipaaBits
import Derived.Test.YthmbdkgmpmkipaaCard
namespace Go.Proofs.Ythmbdkgmpmkipaa
open Go.RowKit

theorem bound_wrap {a b c : Nat} (ha : a ≤ 24) (hb : b ≤ 24) (hc : c ≤ 24) : IntKind.i64.wrap (IntKind.i64.wrap ((a : Int) + (b : Int)) - (c : Int)) = (a : Int) + (b : Int) - (c : Int) := by
  rw [IntKind.wrap_i64, IntKind.wrap_i64]; omega
def knH (m : List Nat) (A B : Nat) : Nat := stabN m (sumN m A B)
theorem knH_lt (m : List Nat) (A B : Nat) : knH m A B < 2 ^ prodN m := stabN_lt _
def knB (m : List Nat) (A B : Nat) : Int := ((card (sumN m (knH m A B) A) : Nat) : Int) + (card (sumN m (knH m A B) B) : Nat) - (card (knH m A B) : Nat)
theorem knB_ge {m : List Nat} (hm : Ok m) {A B : Nat} (hA : A < 2 ^ prodN m) (h : A ≠ 0) : 0 ≤ knB m A B := by
  have := card_sum_ge hm (knH_lt m A B) hA h
  unfold knB; omega
def kneserF (l : List Int) (a b : Int) : Int := if full l a b = true then knB (toN l) a.toNat b.toNat else -1
theorem kneserF_yes {m : List Nat} {A B : Nat} (h : full (cst m) A B = true) : kneserF (cst m) A B = knB m A B := by
  unfold kneserF; rw [if_pos h, toN_cst, Int.toNat_natCast, Int.toNat_natCast]
theorem kneserF_no {l : List Int} {a b : Int} (h : full l a b = false) : kneserF l a b = -1 := by unfold kneserF; rw [if_neg (by simp [h])]
def pairH (l : List Int) (a b : Int) : Int := if full l a b = true then (knH (toN l) a.toNat b.toNat : Nat) else 0
def pairX (l : List Int) (a b : Int) : Int := if full l a b = true then (sumN (toN l) (knH (toN l) a.toNat b.toNat) a.toNat : Nat) else 0
def pairY (l : List Int) (a b : Int) : Int := if full l a b = true then (sumN (toN l) (knH (toN l) a.toNat b.toNat) b.toNat : Nat) else 0
theorem pair_yes {m : List Nat} {A B : Nat} (h : full (cst m) A B = true) : pairH (cst m) A B = (knH m A B : Nat) ∧ pairX (cst m) A B = (sumN m (knH m A B) A : Nat) ∧ pairY (cst m) A B = (sumN m (knH m A B) B : Nat) := by
  unfold pairH pairX pairY; rw [if_pos h, if_pos h, if_pos h, toN_cst, Int.toNat_natCast, Int.toNat_natCast]; exact ⟨rfl, rfl, rfl⟩
theorem pair_no {l : List Int} {a b : Int} (h : full l a b = false) : pairH l a b = 0 ∧ pairX l a b = 0 ∧ pairY l a b = 0 := by
  unfold pairH pairX pairY; rw [if_neg (by simp [h]), if_neg (by simp [h]), if_neg (by simp [h])]; exact ⟨rfl, rfl, rfl⟩
theorem ret_4 {a b c a' b' c' : Int} {d d' : Bool} (h1 : a = a') (h2 : b = b') (h3 : c = c') (h4 : d = d') :
    Ending.returned (.tuple #[.int .i64 a, .int .i64 b, .int .i64 c, .bool d]) = .returned (.tuple #[.int .i64 a', .int .i64 b', .int .i64 c', .bool d']) := by rw [h1, h2, h3, h4]
end Go.Proofs.Ythmbdkgmpmkipaa
