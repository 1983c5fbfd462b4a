/-
  Plain laws: a set with a step is its own longest progression; the negative of a step is a step.
-/
import Derived.Test.YtpflnmcecnbilaaComb
import Derived.Test.YtpflnmcecnbilaaSteps
import Derived.Test.YtpflnmcecnbilaaLong
namespace Go.Proofs.Ytpflnmcecnbilaa
open Go.RowKit

section
variable {m : List Nat} (hm : Ok m)
include hm
theorem runN_spec (A x d : Nat) (hx : x < prodN m) : 1 ≤ runN m A x d ∧ (∀ j, 1 ≤ j → j < runN m A x d → stepN m x d j ≠ x ∧ A.testBit (stepN m x d j) = true) ∧ (stepN m x d (runN m A x d) = x ∨ A.testBit (stepN m x d (runN m A x d)) = false) := by
  unfold runN
  cases e : (List.range (prodN m)).find? (fun j => stepN m x d (j + 1) == x || !A.testBit (stepN m x d (j + 1))) with
  | none =>
    exfalso
    rw [List.find?_eq_none] at e
    have hp := hm.pos
    have := e (prodN m - 1) (List.mem_range.2 (by omega))
    rw [show prodN m - 1 + 1 = prodN m from by omega, stepN_back hm hx d] at this
    simp at this
  | some v =>
    have h1 := List.find?_some e
    rw [List.find?_range_eq_some] at e
    simp only [Option.getD_some]
    refine ⟨by omega, fun j hj1 hj => ?_, ?_⟩
    · have := e.2.2 (j - 1) (by omega)
      rw [show j - 1 + 1 = j from by omega] at this
      simpa using this
    · simpa using h1
theorem step_inj {A x d i j : Nat} (hx : x < prodN m) (hi : i < j) (hj : j < runN m A x d) : stepN m x d j ≠ stepN m x d i := fun e => by
  have h := stepN_cancel hm hx d i (j - i) (by rw [show j - i + i = j from by omega]; exact e)
  exact ((runN_spec hm A x d hx).2.1 (j - i) (by omega) (by omega)).1 h
theorem runN_card {A x d : Nat} (hA : A < 2 ^ prodN m) (hx : x ∈ mem A) : runN m A x d ≤ card A := by
  have hxn := hm.mlt hA hx
  have hn : ((List.range (runN m A x d)).map (stepN m x d)).Nodup := nodup_map_on List.nodup_range fun i hi j hj e => by
    rw [List.mem_range] at hi hj
    rcases Nat.lt_trichotomy i j with h | h | h
    · exact absurd e.symm (step_inj hm hxn h hj)
    · exact h
    · exact absurd e (step_inj hm hxn h hi)
  have h := len_le_of_sub (K := mem A) hn (fun z hz => by
    obtain ⟨j, hj, rfl⟩ := List.mem_map.1 hz
    rw [List.mem_range] at hj
    rcases Nat.eq_zero_or_pos j with h0 | h0
    · subst h0; exact hx
    · exact (hm.tb hA).1 ((runN_spec hm A x d hxn).2.1 j h0 hj).2)
  rw [List.length_map, List.length_range] at h
  exact h
omit hm in
theorem step_period {x d p : Nat} (h : stepN m x d p = x) : ∀ a, stepN m x d (a + p) = stepN m x d a
  | 0 => by rw [Nat.zero_add, h]; rfl
  | a + 1 => by
    rw [show a + 1 + p = (a + p) + 1 from by omega]
    show addN m (stepN m x d (a + p)) d = addN m (stepN m x d a) d
    rw [step_period h a]
omit hm in
theorem step_small {x d p : Nat} (hp : 1 ≤ p) (h : stepN m x d p = x) : ∀ k, ∃ j, j < p ∧ stepN m x d k = stepN m x d j := fun k => by
  induction k using Nat.strongRecOn with
  | ind k ih =>
    rcases Nat.lt_or_ge k p with h1 | h1
    · exact ⟨k, h1, rfl⟩
    · obtain ⟨j, hj, e⟩ := ih (k - p) (by omega)
      exact ⟨j, hj, by rw [← e, ← step_period h (k - p), show k - p + p = k from by omega]⟩
theorem mem_prog {x d k z : Nat} (hx : x < prodN m) : z ∈ mem (ofL (progTo m x d k)) ↔ ∃ j, j < k ∧ stepN m x d j = z := by
  rw [mem_ofL (progTo_24 hm hx k)]
  simp only [progTo, List.mem_map, List.mem_range]
theorem runN_step {A x d : Nat} (hA : A < 2 ^ prodN m) (hx : x ∈ mem A) (h : ofL (progTo m x d (card A)) = A) : runN m A x d = card A := by
  have hxn := hm.mlt hA hx
  refine Nat.le_antisymm (runN_card hm hA hx) (Nat.not_lt.1 fun hlt => ?_)
  obtain ⟨h1, _, h3⟩ := runN_spec hm A x d hxn
  have hin : ∀ j, j < card A → stepN m x d j ∈ mem A := fun j hj => by rw [← h]; exact (mem_prog hm hxn).2 ⟨j, hj, rfl⟩
  rcases h3 with h3 | h3
  · have h4 := len_le_of_sub (K := (List.range (runN m A x d)).map (stepN m x d)) (mem_nodup A) (fun z hz => by
      rw [← h] at hz
      obtain ⟨j, _, rfl⟩ := (mem_prog hm hxn).1 hz
      obtain ⟨i, hi, e⟩ := step_small h1 h3 j
      rw [e]; exact List.mem_map.2 ⟨i, List.mem_range.2 hi, rfl⟩)
    rw [List.length_map, List.length_range] at h4
    exact absurd h4 (by have : card A = (mem A).length := rfl; omega)
  · rw [(hm.tb hA).2 (hin _ hlt)] at h3; cases h3
omit hm in
theorem bIn_ge (m : List Nat) (A x b : Nat) : ∀ j, b ≤ bIn m A x b j ∧ ∀ d, d < j → runN m A x d ≤ bIn m A x b j
  | 0 => ⟨Nat.le_refl _, fun d hd => by omega⟩
  | j + 1 => by
    obtain ⟨h1, h2⟩ := bIn_ge m A x b j
    rw [bIn_succ]
    refine ⟨by omega, fun d hd => ?_⟩
    rcases (by omega : d < j ∨ d = j) with h | rfl
    · have := h2 d h; omega
    · omega
omit hm in
theorem bIn_up {A x b c : Nat} (hb : b ≤ c) (h : ∀ d, runN m A x d ≤ c) : ∀ j, bIn m A x b j ≤ c
  | 0 => hb
  | j + 1 => by rw [bIn_succ]; have := bIn_up hb h j; have := h j; omega
omit hm in
theorem bOut_ge (m : List Nat) (A : Nat) (L : List Nat) : ∀ i, i ≤ L.length → ∀ k, k < i → ∀ d, d < prodN m → runN m A (L.getD k 0) d ≤ bOut m A L i
  | 0, _ => fun k hk => by omega
  | i + 1, hi => fun k hk d hd => by
    rw [bOut_succ (by omega)]
    obtain ⟨h1, h2⟩ := bIn_ge m A (L.getD i 0) (bOut m A L i) (prodN m)
    rcases (by omega : k < i ∨ k = i) with h | rfl
    · have := bOut_ge m A L i (by omega) k h d hd; omega
    · exact h2 d hd
omit hm in
theorem bOut_up {A c : Nat} {L : List Nat} (h : ∀ k, k < L.length → ∀ d, runN m A (L.getD k 0) d ≤ c) : ∀ i, i ≤ L.length → bOut m A L i ≤ c
  | 0, _ => by simp [bOut]
  | i + 1, hi => by rw [bOut_succ (by omega)]; exact bIn_up (bOut_up h i (by omega)) (h i (by omega)) _
theorem long_step {A d : Nat} (hA : A < 2 ^ prodN m) (hd : d < prodN m) (h : isStep m A d = true) : bOut m A (mem A) (mem A).length = card A := by
  refine Nat.le_antisymm (bOut_up (fun k hk e => runN_card hm hA (getD_mem _ 0 k hk)) _ (Nat.le_refl _)) ?_
  unfold isStep at h; rw [List.any_eq_true] at h
  obtain ⟨x, hx, he⟩ := h
  rw [decide_eq_true_eq] at he
  obtain ⟨j, hj, e⟩ := List.getElem_of_mem hx
  have e' : (mem A).getD j 0 = x := by simp [List.getD_eq_getElem?_getD, List.getElem?_eq_getElem hj, e]
  have := bOut_ge m A (mem A) (mem A).length (Nat.le_refl _) j hj d hd
  rw [e', runN_step hm hA hx he] at this
  exact this
theorem step_back {x d c : Nat} (hx : x < prodN m) : ∀ k, k < c → stepN m (stepN m x d (c - 1)) (negN m d) k = stepN m x d (c - 1 - k)
  | 0, _ => rfl
  | k + 1, hk => by
    show addN m (stepN m (stepN m x d (c - 1)) (negN m d) k) (negN m d) = _
    rw [step_back hx k (by omega), show c - 1 - k = (c - 1 - (k + 1)) + 1 from by omega]
    show addN m (addN m (stepN m x d (c - 1 - (k + 1))) d) (negN m d) = _
    rw [hm.add_sub d (stepN_lt hm hx _)]
theorem isStep_neg {A d : Nat} (hA : A < 2 ^ prodN m) (h : isStep m A d = true) : isStep m A (negN m d) = true := by
  unfold isStep at h ⊢; rw [List.any_eq_true] at h ⊢
  obtain ⟨x, hx, he⟩ := h
  rw [decide_eq_true_eq] at he
  have hxn := hm.mlt hA hx
  have hc := card_one_le hx
  refine ⟨stepN m x d (card A - 1), ?_, ?_⟩
  · have h1 : stepN m x d (card A - 1) ∈ mem (ofL (progTo m x d (card A))) := (mem_prog hm hxn).2 ⟨card A - 1, by omega, rfl⟩
    rw [he] at h1; exact h1
  · rw [decide_eq_true_eq]
    have e : ofL (progTo m (stepN m x d (card A - 1)) (negN m d) (card A)) = ofL (progTo m x d (card A)) := by
      refine ext_mem (ofL_lt (progTo_24 hm (stepN_lt hm hxn _) _)) (ofL_lt (progTo_24 hm hxn _)) fun z => ?_
      rw [mem_prog hm (stepN_lt hm hxn _), mem_prog hm hxn]
      constructor
      · rintro ⟨j, hj, rfl⟩
        exact ⟨card A - 1 - j, by omega, (step_back hm hxn j hj).symm⟩
      · rintro ⟨j, hj, rfl⟩
        exact ⟨card A - 1 - j, by omega, by rw [step_back hm hxn _ (by omega)]; congr 1; omega⟩
    rw [e]; exact he
omit hm in
theorem mem_steps {A d : Nat} : d ∈ stepsTo m A (prodN m) ↔ d < prodN m ∧ isStep m A d = true := by
  simp only [stepsTo, List.mem_filter, List.mem_range]
theorem steps_neg {A d : Nat} (hA : A < 2 ^ prodN m) (h : d ∈ stepsTo m A (prodN m)) : negN m d ∈ stepsTo m A (prodN m) :=
  mem_steps.2 ⟨hm.neg_lt d, isStep_neg hm hA (mem_steps.1 h).2⟩
end
end Go.Proofs.Ytpflnmcecnbilaa
