/-
  Contracts: the order of an element.
-/
import Derived.Test.YtalflbnplgmlpaaAdd
import Derived.Test.YtalflbnplgmlpaaGrp2
import Derived.Test.YtalflbnplgmlpaaCard
namespace Go.Proofs.Ytalflbnplgmlpaa
open Go.RowKit

/-- an element taken k times -/
def mulN : List Nat → Nat → Nat → Nat
  | [], _, _ => 0
  | o :: r, k, x => (k * (x % o)) % o + o * mulN r k (x / o)
theorem mulN_zero : ∀ (m : List Nat) (x : Nat), mulN m 0 x = 0
  | [], _ => rfl
  | o :: r, x => by simp [mulN, mulN_zero r]
theorem mulN_succ : ∀ {m : List Nat}, (∀ o ∈ m, 2 ≤ o) → ∀ (k x : Nat), addN m (mulN m k x) x = mulN m (k + 1) x
  | [], _, _, _ => rfl
  | o :: r, h, k, x => by
    have ho : 2 ≤ o := h o (by simp)
    have hlt : k * (x % o) % o < o := Nat.mod_lt _ (by omega)
    have e1 : (k * (x % o) % o + o * mulN r k (x / o)) % o = k * (x % o) % o := by rw [Nat.add_mul_mod_self_left, Nat.mod_mod]
    have e2 : (k * (x % o) % o + o * mulN r k (x / o)) / o = mulN r k (x / o) := by rw [Nat.add_mul_div_left _ _ (by omega), Nat.div_eq_of_lt hlt, Nat.zero_add]
    simp only [addN, mulN]
    rw [e1, e2, mulN_succ (fun p hp => h p (by simp [hp])) k (x / o), Nat.add_mul, Nat.one_mul, Nat.add_mod (k * (x % o)) (x % o) o, Nat.mod_mod]
theorem mulN_dvd : ∀ {m : List Nat} {k : Nat}, prodN m ∣ k → ∀ x, mulN m k x = 0
  | [], _, _, _ => rfl
  | o :: r, k, h, x => by
    have h1 : o ∣ k := Nat.dvd_trans (Nat.dvd_mul_right o (prodN r)) h
    have h2 : prodN r ∣ k := Nat.dvd_trans (Nat.dvd_mul_left (prodN r) o) h
    simp only [mulN]
    rw [mulN_dvd h2, Nat.mod_eq_zero_of_dvd (Nat.dvd_trans h1 (Nat.dvd_mul_right k _)), Nat.mul_zero]
theorem mulN_lt {m : List Nat} (hm : Ok m) (k x : Nat) : mulN m k x < prodN m := by
  cases k with
  | zero => rw [mulN_zero]; exact hm.pos
  | succ k => rw [← mulN_succ hm.ge2]; exact hm.add_lt _ _
theorem mulN_one {m : List Nat} (hm : Ok m) {x : Nat} (hx : x < prodN m) : mulN m 1 x = x := by
  rw [← mulN_succ hm.ge2, mulN_zero]; exact hm.zero_add hx
def ordE (m : List Nat) (x : Nat) : Nat := ((List.range (prodN m)).find? fun j => mulN m (j + 1) x == 0).getD 0 + 1
theorem ordE_eq {m : List Nat} {x n : Nat} (h1 : 1 ≤ n) (hn : n ≤ prodN m) (h : ∀ j, 1 ≤ j → j < n → mulN m j x ≠ 0) (h0 : mulN m n x = 0) : ordE m x = n := by
  have e : (List.range (prodN m)).find? (fun j => mulN m (j + 1) x == 0) = some (n - 1) := by
    rw [List.find?_range_eq_some]
    refine ⟨by rw [show n - 1 + 1 = n from by omega, h0]; rfl, by rw [List.mem_range]; omega, fun j hj => ?_⟩
    have := h (j + 1) (by omega) (by omega)
    simp [this]
  unfold ordE; rw [e]; simp; omega
end Go.Proofs.Ytalflbnplgmlpaa
