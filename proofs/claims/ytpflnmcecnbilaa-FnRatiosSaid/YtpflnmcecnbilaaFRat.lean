/-
  Plain laws: the inequality of Petridis; the part with the least ratio obeys it; sizes of iterated sums.
-/
import Derived.Test.YtpflnmcecnbilaaLeast
import Derived.Test.YtpflnmcecnbilaaIter
import Derived.Test.YtpflnmcecnbilaaDefect
namespace Go.Proofs.Ytpflnmcecnbilaa
open Go.RowKit

theorem sdiff_pw {C c : Nat} (h : c ∈ mem C) : ∀ z, z ∈ mem C ↔ z ∈ mem (sdiff C (pw c)) ∨ z = c := fun z => by
  have hc := mem_lt h
  have hp : ∀ y, y ∈ mem (pw c) ↔ y = c := fun y => by
    rw [mem_iff, testBit_pw, decide_eq_true_eq]
    constructor
    · rintro ⟨_, rfl⟩; rfl
    · rintro rfl; exact ⟨hc, rfl⟩
  rw [mem_sdiff, hp]
  constructor
  · intro hz
    by_cases e : z = c
    · exact .inr e
    · exact .inl ⟨hz, e⟩
  · rintro (hz | rfl)
    · exact hz.1
    · exact h
theorem card_sdiff_pw {C c : Nat} (h : c ∈ mem C) : card (sdiff C (pw c)) < card C :=
  card_lt (fun y hy => (sdiff_pw h y).2 (.inl hy)) h (fun hn => by
    have := (mem_sdiff.1 hn).2
    exact this (mem_iff.2 ⟨mem_lt h, by rw [testBit_pw]; simp⟩))
section
variable {m : List Nat} (hm : Ok m)
include hm
theorem sum_pull {S C c : Nat} (h : c ∈ mem C) : sumN m S C = sumN m S (sdiff C (pw c)) ||| shiftN m S c := by
  refine ext_mem (hm.lt24 (hm.sum_lt _ _)) (hm.lt24 (Nat.or_lt_two_pow (hm.sum_lt _ _) (hm.shift_lt _ _))) fun z => ?_
  rw [mem_or, mem_sumN hm, mem_sumN hm, mem_shiftN hm]
  constructor
  · rintro ⟨x, hx, y, hy, rfl⟩
    rcases (sdiff_pw h y).1 hy with hy | rfl
    · exact .inl ⟨x, hx, y, hy, rfl⟩
    · exact .inr ⟨x, hx, addN_comm m _ _⟩
  · rintro (⟨x, hx, y, hy, rfl⟩ | ⟨x, hx, rfl⟩)
    · exact ⟨x, hx, y, (sdiff_pw h y).2 (.inl hy), rfl⟩
    · exact ⟨x, hx, c, h, addN_comm m _ _⟩
theorem sum_nil (S : Nat) {C : Nat} (h : card C = 0) : sumN m S C = 0 := by
  refine ext_mem (hm.lt24 (hm.sum_lt _ _)) (by decide) fun z => ?_
  have e : mem C = [] := List.eq_nil_of_length_eq_zero h
  rw [mem_sumN hm]
  constructor
  · rintro ⟨x, _, y, hy, _⟩; rw [e] at hy; cases hy
  · intro hz; simp [mem_iff] at hz
/-- Petridis: a set whose parts all have at least its ratio obeys the inequality for all further sets -/
theorem petridis {X B : Nat} (hX : X < 2 ^ prodN m) (hmin : ∀ Z, Z < 2 ^ prodN m → Z ≠ 0 → (∀ x ∈ mem Z, x ∈ mem X) → card (sumN m X B) * card Z ≤ card (sumN m Z B) * card X) :
    ∀ (k C : Nat), card C ≤ k → C < 2 ^ prodN m → card (sumN m (sumN m X B) C) * card X ≤ card (sumN m X B) * card (sumN m X C) := by
  intro k
  induction k with
  | zero =>
    intro C hC _
    rw [sum_nil hm _ (by omega), card_zero, Nat.zero_mul]; exact Nat.zero_le _
  | succ k ih =>
    intro C hC hCl
    by_cases h0 : card C = 0
    · rw [sum_nil hm _ h0, card_zero, Nat.zero_mul]; exact Nat.zero_le _
    · obtain ⟨c, hc⟩ := mem_of_card (by omega : 1 ≤ card C)
      have hlt := card_sdiff_pw hc
      have hCl' : sdiff C (pw c) < 2 ^ prodN m := sdiff_lt hCl
      have hcn := hm.mlt hCl hc
      have h1 := ih (sdiff C (pw c)) (by omega) hCl'
      rw [sum_pull hm hc, sum_pull hm (S := X) hc]
      generalize sdiff C (pw c) = D at *
      generalize hS : sumN m X B = S at *
      have hSl : S < 2 ^ prodN m := by rw [← hS]; exact hm.sum_lt _ _
      have e1 := card_or_and (sumN m S D) (shiftN m S c)
      have e2 := card_or_and (sumN m X D) (shiftN m X c)
      rw [card_shift hm hSl] at e1
      rw [card_shift hm hX] at e2
      -- the elements of X whose shift lies in X + D
      let W := setN (prodN m) fun x => X.testBit x && (sumN m X D).testBit (addN m x c)
      have hWl : W < 2 ^ prodN m := setN_lt _ _
      have hW : ∀ x, x ∈ mem W ↔ x ∈ mem X ∧ addN m x c ∈ mem (sumN m X D) := fun x => by
        rw [mem_setN hm.ord, Bool.and_eq_true, hm.tb hX, hm.tb (hm.sum_lt _ _)]
        exact ⟨fun h => h.2, fun h => ⟨hm.mlt hX h.1, h⟩⟩
      have eW : card (sumN m X D &&& shiftN m X c) ≤ card W := by
        rw [← card_shift hm hWl c]
        refine card_mono fun z hz => ?_
        obtain ⟨hz1, hz2⟩ := mem_and.1 hz
        obtain ⟨y, hy, rfl⟩ := (mem_shiftN hm).1 hz2
        exact (mem_shiftN hm).2 ⟨y, (hW y).2 ⟨hy, by rw [addN_comm]; exact hz1⟩, rfl⟩
      have eS : card (sumN m W B) ≤ card (sumN m S D &&& shiftN m S c) := by
        rw [← card_shift hm (hm.sum_lt W B) c]
        refine card_mono fun z hz => ?_
        obtain ⟨y, hy, rfl⟩ := (mem_shiftN hm).1 hz
        obtain ⟨x, hx, b, hb, rfl⟩ := (mem_sumN hm).1 hy
        obtain ⟨hx1, hx2⟩ := (hW x).1 hx
        have hxb : addN m x b ∈ mem S := by rw [← hS]; exact (mem_sumN hm).2 ⟨x, hx1, b, hb, rfl⟩
        refine mem_and.2 ⟨?_, (mem_shiftN hm).2 ⟨_, hxb, rfl⟩⟩
        obtain ⟨x', hx', d, hd, e⟩ := (mem_sumN hm).1 hx2
        have e' : addN m c (addN m x b) = addN m (addN m x' b) d := by
          rw [← hm.assoc, addN_comm m c x, ← e, hm.right_comm]
        rw [e']
        exact (mem_sumN hm).2 ⟨_, by rw [← hS]; exact (mem_sumN hm).2 ⟨x', hx', b, hb, rfl⟩, d, hd, rfl⟩
      have hWX : card S * card W ≤ card (sumN m W B) * card X := by
        by_cases hw0 : W = 0
        · rw [hw0, card_zero, Nat.mul_zero]; exact Nat.zero_le _
        · have := hmin W hWl hw0 (fun x hx => ((hW x).1 hx).1)
          exact this
      clear_value W
      generalize card (sumN m S D ||| shiftN m S c) = p1 at *
      generalize card (sumN m X D ||| shiftN m X c) = p2 at *
      generalize card (sumN m S D &&& shiftN m S c) = q1 at *
      generalize card (sumN m X D &&& shiftN m X c) = q2 at *
      generalize card (sumN m S D) = r1 at *
      generalize card (sumN m X D) = r2 at *
      generalize card S = s at *
      generalize card X = t at *
      generalize card W = u at *
      generalize card (sumN m W B) = v at *
      -- p1 + q1 = r1 + s, p2 + q2 = r2 + t, q2 ≤ u, v ≤ q1, s*u ≤ v*t, r1*t ≤ s*r2; claim p1*t ≤ s*p2
      have a1 : p1 * t + q1 * t = r1 * t + s * t := by rw [← Nat.add_mul, ← Nat.add_mul, e1]
      have a2 : s * p2 + s * q2 = s * r2 + s * t := by rw [← Nat.mul_add, ← Nat.mul_add, e2]
      have a3 : s * q2 ≤ s * u := Nat.mul_le_mul_left _ eW
      have a4 : v * t ≤ q1 * t := Nat.mul_le_mul_right _ eS
      omega
theorem least_min {A B : Nat} (hA : A < 2 ^ prodN m) (h0 : A ≠ 0) :
    ∀ Z, Z ≠ 0 → (∀ x ∈ mem Z, x ∈ mem A) → Z < 2 ^ prodN m → card (sumN m (leastN m A B) B) * card Z ≤ card (sumN m Z B) * card (leastN m A B) := fun Z hZ hs hZl => by
  obtain ⟨hp, hb⟩ := leastN_spec (m := m) (B := B) (Nat.lt_of_lt_of_le hA hm.pow_le) h0
  by_cases e : Z = leastN m A B
  · rw [e]; exact Nat.le_refl _
  · have hpZ : part A Z := ⟨hZ, part_and.2 (ext_mem (Nat.lt_of_le_of_lt Nat.and_le_left (hm.lt24 hZl)) (hm.lt24 hZl) fun x => ⟨fun h => (mem_and.1 h).1, fun h => mem_and.2 ⟨h, hs x h⟩⟩)⟩
    rcases hb Z hpZ e with h | h
    · exact Nat.le_of_lt h
    · exact Nat.le_of_eq h.1
theorem least_lt {A B : Nat} (hA : A < 2 ^ prodN m) (h0 : A ≠ 0) : leastN m A B < 2 ^ prodN m ∧ leastN m A B ≠ 0 ∧ ∀ x ∈ mem (leastN m A B), x ∈ mem A := by
  obtain ⟨hp, _⟩ := leastN_spec (m := m) (B := B) (Nat.lt_of_lt_of_le hA hm.pow_le) h0
  exact ⟨Nat.lt_of_le_of_lt (part_le hp) hA, hp.1, part_sub hp.2⟩
theorem least_petridis {A B C : Nat} (hA : A < 2 ^ prodN m) (h0 : A ≠ 0) (hC : C < 2 ^ prodN m) :
    card (sumN m (sumN m (leastN m A B) B) C) * card (leastN m A B) ≤ card (sumN m (leastN m A B) B) * card (sumN m (leastN m A B) C) := by
  obtain ⟨h1, h2, h3⟩ := least_lt hm (B := B) hA h0
  exact petridis hm h1 (fun Z hZl hZ hs => least_min hm hA h0 Z hZ (fun x hx => h3 x (hs x hx)) hZl) _ C (Nat.le_refl _) hC
theorem petGap_least {A B C : Nat} (hA : A < 2 ^ prodN m) (h0 : A ≠ 0) (hC : C < 2 ^ prodN m) : 0 ≤ petGap m (leastN m A B) B C := by
  have h := least_petridis hm (B := B) hA h0 hC
  unfold petGap
  rw [← Int.natCast_mul, ← Int.natCast_mul]; omega
/-- X + kB is X + (kB) -/
theorem iter_sum {X B : Nat} (hX : X < 2 ^ prodN m) : ∀ k, ∃ C, C < 2 ^ prodN m ∧ iterN m X B k = sumN m X C
  | 0 => ⟨1, by have h1 := hm.pos; have h2 : 2 ^ 1 ≤ 2 ^ prodN m := Nat.pow_le_pow_right (by omega) h1; omega, by
      refine ext_mem (hm.lt24 hX) (hm.lt24 (hm.sum_lt _ _)) fun z => ?_
      rw [mem_sumN hm]
      have h1 : ∀ y, y ∈ mem 1 ↔ y = 0 := fun y => by
        rw [mem_iff, show (1 : Nat).testBit y = decide (0 = y) from testBit_pw 0 y, decide_eq_true_eq]; omega
      constructor
      · intro hz; exact ⟨z, hz, 0, (h1 0).2 rfl, hm.add_zero (hm.mlt hX hz)⟩
      · rintro ⟨x, hx, y, hy, rfl⟩
        rw [(h1 y).1 hy, hm.add_zero (hm.mlt hX hx)]; exact hx⟩
  | k + 1 => by
    obtain ⟨C, hC, e⟩ := iter_sum hX k
    exact ⟨sumN m C B, hm.sum_lt _ _, by show sumN m (iterN m X B k) B = _; rw [e, sum_assoc hm]⟩
theorem iter_petridis {A B : Nat} (hA : A < 2 ^ prodN m) (h0 : A ≠ 0) (k : Nat) :
    card (iterN m (leastN m A B) B (k + 1)) * card (leastN m A B) ≤ card (sumN m (leastN m A B) B) * card (iterN m (leastN m A B) B k) := by
  obtain ⟨C, hC, e⟩ := iter_sum hm (X := leastN m A B) (B := B) (least_lt hm hA h0).1 k
  have h := least_petridis hm (B := B) hA h0 hC
  have e2 : iterN m (leastN m A B) B (k + 1) = sumN m (sumN m (leastN m A B) B) C := by
    show sumN m (iterN m (leastN m A B) B k) B = _
    rw [e, sum_assoc hm, sum_assoc hm, sum_comm hm C B]
  rw [e2, e]; exact h
end
end Go.Proofs.Ytpflnmcecnbilaa
