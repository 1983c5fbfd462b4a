/-
  Plain facts: sizes of sets of a group.
-/
import Derived.Test.YtpflnmcecnbilaaMath
namespace Go.Proofs.Ytpflnmcecnbilaa

theorem len_le_of_sub {L K : List Nat} (hn : L.Nodup) (h : ∀ x ∈ L, x ∈ K) : L.length ≤ K.length := by
  induction L generalizing K with
  | nil => simp
  | cons x r ih =>
    have hx : x ∈ K := h x (by simp)
    have hr : ∀ y ∈ r, y ∈ K.erase x := fun y hy => by
      have hne : y ≠ x := fun e => by subst e; exact (List.nodup_cons.1 hn).1 hy
      exact (List.mem_erase_of_ne hne).2 (h y (by simp [hy]))
    have h1 := ih (List.nodup_cons.1 hn).2 hr
    have h2 := List.length_erase_of_mem hx
    have h3 : 0 < K.length := List.length_pos_of_mem hx
    simp only [List.length_cons]; omega
theorem mem_nodup (A : Nat) : (mem A).Nodup := List.Pairwise.filter _ List.nodup_range
theorem nodup_map_on {L : List Nat} {f : Nat → Nat} (hn : L.Nodup) (hf : ∀ x ∈ L, ∀ y ∈ L, f x = f y → x = y) : (L.map f).Nodup := by
  induction L with
  | nil => simp
  | cons x r ih =>
    rw [List.map_cons, List.nodup_cons]
    have hc := List.nodup_cons.1 hn
    refine ⟨fun hm => ?_, ih hc.2 fun a ha b hb => hf a (by simp [ha]) b (by simp [hb])⟩
    obtain ⟨y, hy, e⟩ := List.mem_map.1 hm
    have := hf x (by simp) y (by simp [hy]) e.symm
    subst this
    exact hc.1 hy
theorem card_le_of_inj {A B : Nat} (f : Nat → Nat) (hf : ∀ x ∈ mem A, ∀ y ∈ mem A, f x = f y → x = y) (h : ∀ x ∈ mem A, f x ∈ mem B) : card A ≤ card B := by
  have h1 := len_le_of_sub (nodup_map_on (mem_nodup A) hf) (K := mem B) (fun z hz => by
    obtain ⟨x, hx, rfl⟩ := List.mem_map.1 hz; exact h x hx)
  simpa [card] using h1
theorem card_mono {A B : Nat} (h : ∀ x ∈ mem A, x ∈ mem B) : card A ≤ card B := card_le_of_inj id (fun _ _ _ _ e => e) h
theorem card_zero : card 0 = 0 := by decide
theorem card_pos {A : Nat} (hA : A < 2 ^ 24) (h : A ≠ 0) : ∃ x, x ∈ mem A := by
  rcases Nat.eq_zero_or_pos (card A) with h0 | h0
  · exfalso; apply h
    have : mem A = [] := List.eq_nil_of_length_eq_zero h0
    rw [← ofL_mem hA, this]; rfl
  · exact ⟨(mem A)[0]'h0, List.getElem_mem _⟩
theorem mem_of_lt {A i n : Nat} (_hn : n ≤ 24) (hA : A < 2 ^ n) (h : i ∈ mem A) : i < n := by
  have hb := mem_testBit h
  rcases Nat.lt_or_ge i n with h' | h'
  · exact h'
  · rw [Nat.testBit_lt_two_pow (Nat.lt_of_lt_of_le hA (Nat.pow_le_pow_right (by omega) h'))] at hb; cases hb
theorem mem_ofL {L : List Nat} {i : Nat} (hL : ∀ j ∈ L, j < 24) : i ∈ mem (ofL L) ↔ i ∈ L := by
  rw [mem_mem (ofL_lt hL), testBit_ofL]; simp
theorem Ok.zero_add {m : List Nat} (hm : Ok m) {x : Nat} (hx : x < prodN m) : addN m 0 x = x := by rw [addN_comm]; exact addN_zero hm.ge2 hx
theorem Ok.add_zero {m : List Nat} (hm : Ok m) {x : Nat} (hx : x < prodN m) : addN m x 0 = x := addN_zero hm.ge2 hx
theorem Ok.assoc {m : List Nat} (hm : Ok m) (x y z : Nat) : addN m (addN m x y) z = addN m x (addN m y z) := addN_assoc hm.ge2 x y z
theorem Ok.add_neg {m : List Nat} (hm : Ok m) (x : Nat) : addN m x (negN m x) = 0 := addN_neg hm.ge2 x
theorem Ok.cancel {m : List Nat} (hm : Ok m) {x y a : Nat} (hx : x < prodN m) (hy : y < prodN m) (h : addN m x a = addN m y a) : x = y := by
  have e : ∀ z, z < prodN m → addN m (addN m z a) (negN m a) = z := fun z hz => by rw [hm.assoc, hm.add_neg, hm.add_zero hz]
  rw [← e x hx, ← e y hy, h]
theorem mem_sumN {m : List Nat} (hm : Ok m) {A B z : Nat} : z ∈ mem (sumN m A B) ↔ ∃ x ∈ mem A, ∃ y ∈ mem B, addN m x y = z := by
  unfold sumN
  rw [mem_ofL (fun i hi => by simp only [List.mem_flatMap, List.mem_map] at hi; obtain ⟨x, _, y, _, rfl⟩ := hi; exact hm.add24 x y)]
  simp only [List.mem_flatMap, List.mem_map]
theorem mem_shiftN {m : List Nat} (hm : Ok m) {A x z : Nat} : z ∈ mem (shiftN m A x) ↔ ∃ y ∈ mem A, addN m x y = z := by
  unfold shiftN
  rw [mem_ofL (fun i hi => by simp only [List.mem_map] at hi; obtain ⟨y, _, rfl⟩ := hi; exact hm.add24 x y)]
  simp only [List.mem_map]
theorem mem_oppN {m : List Nat} (hm : Ok m) {A z : Nat} : z ∈ mem (oppN m A) ↔ ∃ x ∈ mem A, negN m x = z := by
  unfold oppN
  rw [mem_ofL (fun i hi => by simp only [List.mem_map] at hi; obtain ⟨y, _, rfl⟩ := hi; exact hm.neg24 y)]
  simp only [List.mem_map]
/-- a set is no greater than its sum with a set that is not empty -/
theorem card_sum_ge {m : List Nat} (hm : Ok m) {H A : Nat} (hH : H < 2 ^ prodN m) (hA : A < 2 ^ prodN m) (h : A ≠ 0) : card H ≤ card (sumN m H A) := by
  obtain ⟨a, ha⟩ := card_pos (Nat.lt_of_lt_of_le hA hm.pow_le) h
  refine card_le_of_inj (fun x => addN m x a) (fun x hx y hy e => ?_) (fun x hx => (mem_sumN hm).2 ⟨x, hx, a, ha, rfl⟩)
  exact hm.cancel (mem_of_lt hm.ord hH hx) (mem_of_lt hm.ord hH hy) e
end Go.Proofs.Ytpflnmcecnbilaa
