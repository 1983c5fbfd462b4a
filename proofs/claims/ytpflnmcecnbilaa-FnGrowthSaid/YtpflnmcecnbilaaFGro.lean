/-
  Plain laws: sums with itself never shrink; bases; smallest bases; the size of the sums at last is that of the affine hull.
-/
import Derived.Test.YtpflnmcecnbilaaGen
import Derived.Test.YtpflnmcecnbilaaMulti
import Derived.Test.YtpflnmcecnbilaaGrow
import Derived.Test.YtpflnmcecnbilaaSmall
import Derived.Test.YtpflnmcecnbilaaRatio
namespace Go.Proofs.Ytpflnmcecnbilaa
open Go.RowKit

theorem sum_of_zero {m : List Nat} (hm : Ok m) (A : Nat) : sumN m A 0 = 0 := by
  refine ext_mem (hm.lt24 (hm.sum_lt _ _)) (by decide) fun z => ?_
  rw [mem_sumN hm]
  constructor
  · rintro ⟨x, _, y, hy, _⟩; simp [mem_iff] at hy
  · intro hz; simp [mem_iff] at hz
theorem mult_grows {m : List Nat} (hm : Ok m) {A : Nat} (hA : A < 2 ^ prodN m) (k : Nat) : card (multN m A (k + 1)) ≤ card (multN m A (k + 2)) := by
  by_cases h : A = 0
  · subst h
    show card (sumN m (multN m 0 k) 0) ≤ card (sumN m _ 0)
    rw [sum_of_zero hm, sum_of_zero hm]; exact Nat.le_refl _
  · exact card_le_sum hm (multN_lt hm A (k + 1)) h hA
theorem growTo_mono {m : List Nat} (hm : Ok m) {A N i : Nat} (hA : A < 2 ^ prodN m) (h : i + 1 < N) : (growTo m A N).getD i 0 ≤ (growTo m A N).getD (i + 1) 0 := by
  have e : ∀ j, j < N → (growTo m A N).getD j 0 = card (multN m A (j + 1)) := fun j hj => by
    simp [growTo, List.getD_eq_getElem?_getD, List.getElem?_range hj]
  rw [e i (by omega), e (i + 1) h]
  exact mult_grows hm hA i
theorem basisN_spec {m : List Nat} {A k : Nat} (h : basisN m A = (k : Int)) : k ≤ 30 ∧ multN m A k = pw (prodN m) - 1 ∧ ∀ j, j < k → multN m A j ≠ pw (prodN m) - 1 := by
  unfold basisN at h
  cases e : (List.range 31).find? (isFullN m A) with
  | none => rw [e] at h; simp at h
  | some x =>
    rw [e] at h
    have hx : x = k := by simp at h; omega
    subst hx
    have h1 := List.find?_some e
    rw [List.find?_range_eq_some] at e
    refine ⟨by have := e.2.1; simp at this; omega, by simpa [isFullN] using h1, fun j hj => ?_⟩
    have := e.2.2 j hj
    simpa [isFullN] using this
theorem smN_spec {m : List Nat} (hm : Ok m) {N : Nat} (hN : 1 ≤ N) : smN m N < 2 ^ prodN m ∧ multN m (smN m N) N = pw (prodN m) - 1 ∧ 1 ≤ card (smN m N) := by
  have hpw : ∀ z, z < pw (prodN m) ↔ z < 2 ^ prodN m := fun z => by rw [pw_eq]
  -- among the numbers below a bound that serve there is a best one
  have key : ∀ k, k ≤ pw (prodN m) → (∃ z, z < k ∧ fullB m N z = true) → ∃ a, a < k ∧ fullB m N a = true ∧ ∀ z, z < k → fullB m N z = true → card a < card z ∨ (card a = card z ∧ a ≤ z) := by
    intro k
    induction k with
    | zero => rintro _ ⟨z, hz, _⟩; omega
    | succ k ih =>
      intro hk hex
      by_cases hk' : ∃ z, z < k ∧ fullB m N z = true
      · obtain ⟨a, ha, hf, hl⟩ := ih (by omega) hk'
        by_cases hp : fullB m N k = true ∧ card k < card a
        · refine ⟨k, by omega, hp.1, fun z hz hzf => ?_⟩
          by_cases e : z = k
          · subst e; exact .inr ⟨rfl, Nat.le_refl _⟩
          · rcases hl z (by omega) hzf with h | ⟨h, _⟩
            · exact .inl (by omega)
            · exact .inl (by omega)
        · refine ⟨a, by omega, hf, fun z hz hzf => ?_⟩
          by_cases e : z = k
          · subst e
            have hge : card a ≤ card z := by
              rcases Nat.lt_or_ge (card z) (card a) with h | h
              · exact absurd ⟨hzf, h⟩ hp
              · exact h
            rcases Nat.lt_or_ge (card a) (card z) with h | h
            · exact .inl h
            · exact .inr ⟨by omega, by omega⟩
          · exact hl z (by omega) hzf
      · obtain ⟨z, hz, hzf⟩ := hex
        have e : z = k := by
          rcases Nat.lt_or_ge z k with h | h
          · exact absurd ⟨z, h, hzf⟩ hk'
          · omega
        subst e
        refine ⟨z, by omega, hzf, fun y hy hyf => ?_⟩
        by_cases e : y = z
        · subst e; exact .inr ⟨rfl, Nat.le_refl _⟩
        · exact absurd ⟨y, by omega, hyf⟩ hk'
  have h1 : 1 ≤ pw (prodN m) := Nat.one_le_two_pow
  obtain ⟨a, ha, hf, hl⟩ := key (pw (prodN m)) (Nat.le_refl _) ⟨pw (prodN m) - 1, by omega, fullB_full hm hN⟩
  have e := smN_eq ha hf hl
  rw [e]
  exact ⟨(hpw a).1 ha, by simpa [fullB] using hf, fullB_card hm hN ha hf⟩
theorem dbl_ge {m : List Nat} (hm : Ok m) {X : Nat} (hX : X < 2 ^ prodN m) (h0 : X ≠ 0) : ratB m X X ≤ ratA m X X := by
  have h := card_le_sum hm hX h0 hX
  unfold ratA ratB
  have := Nat.div_le_div_right (c := gcdN (card (sumN m X X)) (card X)) h
  omega

/-! ### the affine hull -/
def lowN (A : Nat) : Nat := (mem A).getD 0 0
def hullN (m : List Nat) (A : Nat) : Nat := shiftN m (genN m (shiftN m A (negN m (lowN A)))) (lowN A)
theorem lowN_mem {A : Nat} (hA : A < 16777216) (h : A ≠ 0) : lowN A ∈ mem A := getD_mem _ 0 0 (ne_zero_card hA h)
theorem mult_shift {m : List Nat} (hm : Ok m) {A x : Nat} (hA : A < 2 ^ prodN m) : ∀ k, ∃ t, multN m (shiftN m A x) k = shiftN m (multN m A k) t
  | 0 => ⟨0, by
      refine ext_mem (by show 1 < _; decide) (hm.lt24 (hm.shift_lt _ _)) fun z => ?_
      have h1 : ∀ y, y ∈ mem 1 ↔ y = 0 := fun y => by
        rw [mem_iff, show (1 : Nat).testBit y = decide (0 = y) from testBit_pw 0 y, decide_eq_true_eq]; omega
      show z ∈ mem 1 ↔ z ∈ mem (shiftN m 1 0)
      rw [mem_shiftN hm]
      constructor
      · intro hz; exact ⟨0, (h1 0).2 rfl, by rw [(h1 z).1 hz, hm.add_zero hm.pos]⟩
      · rintro ⟨y, hy, rfl⟩; rw [(h1 y).1 hy, hm.add_zero hm.pos]; exact (h1 0).2 rfl⟩
  | k + 1 => by
    obtain ⟨t, e⟩ := mult_shift hm hA (x := x) k
    refine ⟨addN m x t, ?_⟩
    show sumN m (multN m (shiftN m A x) k) (shiftN m A x) = shiftN m (sumN m (multN m A k) A) (addN m x t)
    rw [e, sum_shift hm, sum_comm hm, sum_shift hm, sum_comm hm]
    refine ext_mem (hm.lt24 (hm.shift_lt _ _)) (hm.lt24 (hm.shift_lt _ _)) fun z => ?_
    rw [mem_shiftN hm, mem_shiftN hm]
    constructor
    · rintro ⟨y, hy, rfl⟩
      obtain ⟨u, hu, rfl⟩ := (mem_shiftN hm).1 hy
      exact ⟨u, hu, hm.assoc x t u⟩
    · rintro ⟨u, hu, rfl⟩
      exact ⟨addN m t u, (mem_shiftN hm).2 ⟨u, hu, rfl⟩, (hm.assoc x t u).symm⟩
theorem mult_gen {m : List Nat} (hm : Ok m) {A : Nat} (h0 : 0 ∈ mem A) : ∀ k, multN m A k = clN m A k
  | 0 => rfl
  | k + 1 => by
    show sumN m (multN m A k) A = clS m A (clN m A k)
    rw [mult_gen hm h0 k]
    have hl := clN_lt hm A k
    refine ext_mem (hm.lt24 (hm.sum_lt _ _)) (hm.lt24 (clS_lt hm hl)) fun z => ?_
    unfold clS
    rw [mem_or]
    exact ⟨fun h => .inr h, fun h => h.elim (fun h => sub_sum hm hl h0 z h) id⟩
theorem clN_stop {m : List Nat} (hm : Ok m) (A : Nat) : ∀ d, clN m A (24 + d) = genN m A
  | 0 => rfl
  | d + 1 => by show clS m A (clN m A (24 + d)) = _; rw [clN_stop hm A d, genN_fix hm]
theorem stable_hull {m : List Nat} (hm : Ok m) {A : Nat} (hA : A < 2 ^ prodN m) (h : A ≠ 0) : card (multN m A 30) = card (hullN m A) := by
  have hx := lowN_mem (hm.lt24 hA) h
  have h0 : 0 ∈ mem (shiftN m A (negN m (lowN A))) := (mem_shiftN hm).2 ⟨lowN A, hx, hm.neg_add _⟩
  obtain ⟨t, e⟩ := mult_shift hm hA (x := negN m (lowN A)) 30
  rw [mult_gen hm h0, clN_stop hm _ 6] at e
  unfold hullN
  rw [card_shift hm (genN_lt hm _), e, card_shift hm (multN_lt hm A 30)]
theorem stable_zero {m : List Nat} (hm : Ok m) : card (multN m 0 30) = 0 := by
  show card (sumN m (multN m 0 29) 0) = 0
  rw [sum_of_zero hm]; rfl
end Go.Proofs.Ytpflnmcecnbilaa
