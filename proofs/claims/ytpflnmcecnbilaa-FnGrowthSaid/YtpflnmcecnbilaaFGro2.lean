/-
  Plain laws that FnGrowth asks.
-/
import Derived.Test.YtpflnmcecnbilaaHull
import Derived.Test.YtpflnmcecnbilaaLaw5
import Derived.Test.YtpflnmcecnbilaaChowla
namespace Go.Proofs.Ytpflnmcecnbilaa
open Go.RowKit

theorem growF_len30 (l : List Int) (a n : Int) : (growF l a n).length ≤ 30 := by
  by_cases h : multOk l a n = true
  · obtain ⟨m, A, N, hm, rfl, rfl, rfl, hA, hN⟩ := multOk_iff.1 h
    rw [growF_yes h, growTo_len]; exact hN
  · rw [growF_no (by simpa using h)]; simp
theorem grow_spec (l : List Int) (a n : Int) : ∀ i, i + 1 < (growF l a n).length → (growF l a n).getD i 0 ≤ (growF l a n).getD (i + 1) 0 := by
  intro i hi
  by_cases h : multOk l a n = true
  · obtain ⟨m, A, N, hm, rfl, rfl, rfl, hA, hN⟩ := multOk_iff.1 h
    rw [growF_yes h, growTo_len] at hi
    rw [growF_yes h, cst_getD, cst_getD]
    have := growTo_mono hm hA hi
    omega
  · rw [growF_no (by simpa using h)] at hi; simp at hi
theorem basis_spec (l : List Int) (b : Int) : ∃ k : Int, basisF l b = k ∧ -1 ≤ k ∧ k ≤ 30 ∧ (0 ≤ k → multF l b k = fullF l) ∧ (0 < k → multF l b (k - 1) ≠ fullF l) := by
  by_cases h : isSetB l b = true
  · obtain ⟨m, A, hm, rfl, rfl, hA⟩ := isSetB_iff.1 h
    rw [basisF_yes hm hA]
    have hge := basisN_ge m A
    by_cases hz : 0 ≤ basisN m A
    · obtain ⟨k, hk⟩ : ∃ k : Nat, basisN m A = (k : Int) := ⟨(basisN m A).toNat, by omega⟩
      obtain ⟨h30, h1, h2⟩ := basisN_spec hk
      refine ⟨k, hk, by omega, by omega, fun _ => ?_, fun h0 => ?_⟩
      · rw [multF_yes (multOk_iff.2 ⟨m, A, k, hm, rfl, rfl, rfl, hA, h30⟩), fullF_yes hm, h1]
      · have e : (k : Int) - 1 = ((k - 1 : Nat) : Int) := by omega
        rw [e, multF_yes (multOk_iff.2 ⟨m, A, k - 1, hm, rfl, rfl, rfl, hA, by omega⟩), fullF_yes hm]
        have := h2 (k - 1) (by omega)
        omega
    · exact ⟨_, rfl, hge, by omega, fun h0 => absurd h0 hz, fun h0 => by omega⟩
  · exact ⟨-1, basisF_no (by simpa using h), by omega, by omega, fun h0 => by omega, fun h0 => by omega⟩
theorem small_spec {l : List Int} {n : Int} (h : smOk l n = true) : ∃ S : Nat, smF l n = (S : Int) ∧ S < 16777216 ∧ multF l (S : Int) n = fullF l ∧ ¬ countF l (S : Int) < 1 := by
  obtain ⟨m, N, hm, rfl, rfl, h1, h4, _, _, _⟩ := smOk_iff h
  obtain ⟨a, b, c⟩ := smN_spec hm (N := N) h1
  refine ⟨smN m N, smF_yes h, hm.lt24 a, ?_, ?_⟩
  · rw [multF_yes (multOk_iff.2 ⟨m, smN m N, N, hm, rfl, rfl, rfl, a, by omega⟩), fullF_yes hm, b]
  · rw [countF_yes hm a]; omega
theorem dbl_spec (l : List Int) (a : Int) : 0 < dblB l a → ¬ dblA l a < dblB l a := by
  by_cases h : full l a a = true
  · obtain ⟨m, A, B, hm, rfl, rfl, hB, hA, hBl, hAn, hBn⟩ := full_iff.1 h
    obtain ⟨e1, e2⟩ := dbl_yes h
    rw [e1, e2]
    have := dbl_ge hm hA (by omega)
    omega
  · rw [(dbl_no (by simpa using h)).2]; omega
theorem stable_spec (l : List Int) (a : Int) : ¬ stableF l a < 1 → stableF l a = countF l (hullF l a) := by
  intro h
  by_cases hs : isSetB l a = true
  · obtain ⟨m, A, hm, rfl, rfl, hA⟩ := isSetB_iff.1 hs
    rw [stableF_yes hm hA] at h ⊢
    by_cases h0 : A = 0
    · subst h0; rw [stable_zero hm] at h; omega
    · rw [hullF_yes hs h0, stable_hull hm hA h0]
      exact (countF_yes hm (hm.shift_lt _ _)).symm
  · rw [stableF_no (by simpa using hs)] at h; omega
end Go.Proofs.Ytpflnmcecnbilaa
