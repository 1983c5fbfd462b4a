/-
  Contracts: sets in progression.
-/
import Derived.Test.YtalflbnplgmlpaaAdd
import Derived.Test.YtalflbnplgmlpaaBits
namespace Go.Proofs.Ytalflbnplgmlpaa
open Go.RowKit

/-- the element that stands at place k of a progression -/
def stepN (m : List Nat) (s d : Nat) : Nat → Nat | 0 => s | k + 1 => addN m (stepN m s d k) d
/-- the elements before place k -/
def progTo (m : List Nat) (s d k : Nat) : List Nat := (List.range k).map (stepN m s d)
theorem progTo_succ (m : List Nat) (s d k : Nat) : progTo m s d (k + 1) = progTo m s d k ++ [stepN m s d k] := by simp [progTo, List.range_succ]
theorem stepN_lt {m : List Nat} (hm : Ok m) {s d : Nat} (hs : s < prodN m) (k : Nat) : stepN m s d k < prodN m := by
  cases k with
  | zero => exact hs
  | succ k => exact hm.add_lt _ _
theorem progTo_24 {m : List Nat} (hm : Ok m) {s d : Nat} (hs : s < prodN m) (k : Nat) : ∀ i ∈ progTo m s d k, i < 24 := fun i hi => by
  simp only [progTo, List.mem_map] at hi; obtain ⟨j, _, rfl⟩ := hi
  exact Nat.lt_of_lt_of_le (stepN_lt hm hs j) hm.ord
theorem ofL_orP {L : List Nat} {x : Nat} (hL : ∀ i ∈ L, i < 24) (hx : x < 24) : bits BinOp.or IntKind.i64 ((ofL L : Nat) : Int) ((pw x : Nat) : Int) = ((ofL (L ++ [x]) : Nat) : Int) := by
  rw [ofL_snoc]
  exact bits_or_nat _ _ (by have := ofL_bound hL; omega) (by have := (pw_le (x := x) (by omega)).2; omega)
def progOk (l : List Int) (s d n : Int) : Bool := isEl l s && isEl l d && inB n 0 24
def progF (l : List Int) (s d n : Int) : Int := if progOk l s d n = true then (ofL (progTo (toN l) s.toNat d.toNat n.toNat) : Nat) else -1
theorem progOk_iff {l : List Int} {s d n : Int} : progOk l s d n = true ↔ ∃ m S D N, Ok m ∧ l = cst m ∧ s = ((S : Nat) : Int) ∧ d = ((D : Nat) : Int) ∧ n = ((N : Nat) : Int) ∧ S < prodN m ∧ D < prodN m ∧ N ≤ 24 := by
  simp only [progOk, Bool.and_eq_true, inB_iff]
  constructor
  · rintro ⟨⟨h1, h2⟩, h3⟩
    obtain ⟨m, S, hm, rfl, rfl, hS⟩ := isEl_iff.1 h1
    rw [isEl_yes hm] at h2
    simp only [Bool.and_eq_true, decide_eq_true_eq] at h2
    exact ⟨m, S, d.toNat, n.toNat, hm, rfl, rfl, by omega, by omega, hS, by omega, by omega⟩
  · rintro ⟨m, S, D, N, hm, rfl, rfl, rfl, rfl, hS, hD, hN⟩
    rw [isEl_yes hm, isEl_yes hm]; simp; omega
theorem progOk_no {l : List Int} {s d n : Int} (h : progOk l s d n = false) : isEl l s = false ∨ (isEl l s = true ∧ isEl l d = false) ∨ (isEl l s = true ∧ isEl l d = true ∧ inB n 0 24 = false) := by
  simp only [progOk] at h
  cases h1 : isEl l s <;> cases h2 : isEl l d <;> cases h3 : inB n 0 24 <;> simp_all
theorem progOk_yes {l : List Int} {s d n : Int} (h : progOk l s d n = true) : isEl l s = true ∧ isEl l d = true ∧ inB n 0 24 = true := by
  simp only [progOk, Bool.and_eq_true] at h; exact ⟨h.1.1, h.1.2, h.2⟩
end Go.Proofs.Ytalflbnplgmlpaa
