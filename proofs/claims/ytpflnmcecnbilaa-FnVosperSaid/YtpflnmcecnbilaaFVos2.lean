/-
  Plain laws: what FnVosper asks, all together.
-/
import Derived.Test.YtpflnmcecnbilaaFVos
import Derived.Test.YtpflnmcecnbilaaOrbit
import Derived.Test.YtpflnmcecnbilaaVos
import Derived.Test.YtpflnmcecnbilaaLaw5
namespace Go.Proofs.Ytpflnmcecnbilaa
open Go.RowKit

theorem vos_le (l : List Int) (a b : Int) : vosF l a b ≤ 5 := by
  by_cases h : vosB l a b = true
  · obtain ⟨hp, hf⟩ := vosB_yes h
    obtain ⟨m, A, B, hm, rfl, rfl, rfl, hA, hB, hA0, hB0⟩ := full_iff.1 hf
    rw [vosF_yes hm h]
    rw [ordN_yes hm] at hp
    have hx := ne_zero_card (hm.lt24 hA) hA0
    have hy := ne_zero_card (hm.lt24 hB) hB0
    have hs := card_le_ord hm.ord (hm.sum_lt A B)
    have hv := fun h2 h2' e1 e2 => vosper_says hm hp hA hB hf h2 h2' e1 e2
    generalize card (sumN m A B) = s at *
    generalize card A = x at *
    generalize card B = y at *
    generalize comB (cst m) A B = c at *
    generalize prodN m = p at *
    unfold vosC
    split
    · omega
    · split
      · omega
      · split
        · omega
        · split
          · omega
          · split
            · omega
            · rename_i n1 n2 n3 n4 n5
              exact absurd (hv (by omega) (by omega) (by omega) (by omega)) n4
  · rw [vosF_no (by simpa using h)]; omega
theorem vosW_none {k : Nat} (h : k ≤ 5) : ((vosW k).toList == [110, 111, 110, 101]) = false := by
  have h1 : k = 0 ∨ k = 1 ∨ k = 2 ∨ k = 3 ∨ k = 4 ∨ k = 5 := by omega
  rcases h1 with rfl | rfl | rfl | rfl | rfl | rfl <;> decide +kernel
theorem dif_spec {l : List Int} {a : Int} (h : 0 < (difsF l a).length) : longF l a = countF l a ∧ ∀ i, i < (difsF l a).length → ∃ j, j < (difsF l a).length ∧ (difsF l a).getD j 0 = negF l ((difsF l a).getD i 0) := by
  have hok : difOk l a = true := by
    by_cases hk : difOk l a = true
    · exact hk
    · rw [difsF_no (by simpa using hk)] at h; simp at h
  obtain ⟨m, A, hm, rfl, rfl, hA⟩ := isSetB_iff.1 (difOk_yes hok).1
  rw [difsF_yes hok] at h ⊢
  rw [cst_length] at *
  have hmem : ∀ i, i < (stepsTo m A (prodN m)).length → (stepsTo m A (prodN m)).getD i 0 ∈ stepsTo m A (prodN m) := fun i hi => getD_mem _ 0 i hi
  refine ⟨?_, fun i hi => ?_⟩
  · have h1 := mem_steps.1 (hmem 0 h)
    rw [longF_yes hm hA, long_step hm hA h1.1 h1.2, countF_yes hm hA]
  · have h1 := hmem i hi
    have h2 := steps_neg hm hA h1
    obtain ⟨j, hj, e⟩ := List.mem_iff_getElem.1 h2
    refine ⟨j, hj, ?_⟩
    rw [cst_getD, cst_getD, negF_yes hm (mem_steps.1 h1).1]
    have e' : (stepsTo m A (prodN m)).getD j 0 = negN m ((stepsTo m A (prodN m)).getD i 0) := by
      rw [← e]; simp [List.getD_eq_getElem?_getD, List.getElem?_eq_getElem hj]
    rw [e']
end Go.Proofs.Ytpflnmcecnbilaa
