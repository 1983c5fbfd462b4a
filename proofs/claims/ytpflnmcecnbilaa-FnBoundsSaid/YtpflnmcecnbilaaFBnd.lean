/-
  Plain laws that FnBounds asks: the bounds of Cauchy and Davenport, and of Chowla.
-/
import Derived.Test.YtpflnmcecnbilaaOrbit
import Derived.Test.YtpflnmcecnbilaaLaw5
import Derived.Test.YtpflnmcecnbilaaCauchy
import Derived.Test.YtpflnmcecnbilaaChowla
namespace Go.Proofs.Ytpflnmcecnbilaa
open Go.RowKit

theorem cauchy_law {l : List Int} {a b : Int} (h : 0 ≤ cauchyF l a b) : cauchyF l a b ≤ countF l (sumF l a b) := by
  by_cases hf : full l a b = true
  · obtain ⟨m, A, B, hm, rfl, rfl, rfl, hA, hB, hAn, hBn⟩ := full_iff.1 hf
    rw [sumF_yes hm hA hB, countF_yes hm (hm.sum_lt _ _)]
    unfold cauchyF
    rw [if_pos hf, ordN_yes hm, Int.toNat_natCast, Int.toNat_natCast]
    have := bound_cauchy hm hA hB (by omega) (by omega)
    omega
  · unfold cauchyF at h; rw [if_neg hf] at h; omega
theorem chowla_law {l : List Int} {a b : Int} (h : chowF l a b = true) : ∃ k : Nat, ordN l = k ∧ k ≤ 24 ∧ ∃ A B S : Nat, countF l a = (A : Int) ∧ countF l b = (B : Int) ∧ countF l (sumF l a b) = (S : Int) ∧ 1 ≤ A ∧ 1 ≤ B ∧ A ≤ 24 ∧ B ≤ 24 ∧ (k ≤ S ∨ A + B ≤ S + 1) := by
  have hf : full l a b = true := by
    unfold chowF at h; rw [Bool.and_eq_true, Bool.and_eq_true] at h; exact h.1.1
  obtain ⟨m, A, B, hm, rfl, rfl, rfl, hA, hB, hAn, hBn⟩ := full_iff.1 hf
  unfold chowF at h
  rw [Bool.and_eq_true, Bool.and_eq_true, toN_cst, Int.toNat_natCast] at h
  refine ⟨prodN m, ordN_yes hm, hm.ord, card A, card B, card (sumN m A B), countF_yes hm hA, countF_yes hm hB, ?_, ne_zero_card (hm.lt24 hA) (by omega), ne_zero_card (hm.lt24 hB) (by omega), card_le A, card_le B, ?_⟩
  · rw [sumF_yes hm hA hB, countF_yes hm (hm.sum_lt _ _)]
  · refine bound_chowla hm hA hB (by omega) ?_ h.2
    rw [mem_iff]
    exact ⟨by omega, h.1.2⟩
end Go.Proofs.Ytpflnmcecnbilaa
