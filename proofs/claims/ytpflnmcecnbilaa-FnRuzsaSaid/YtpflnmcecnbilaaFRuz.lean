/-
  Plain laws: Ruzsa's triangle inequality; differences bounded by sums; the cover covers.
-/
import Derived.Test.YtpflnmcecnbilaaTri
import Derived.Test.YtpflnmcecnbilaaCover
import Derived.Test.YtpflnmcecnbilaaRcov
namespace Go.Proofs.Ytpflnmcecnbilaa
open Go.RowKit

section
variable {m : List Nat} (hm : Ok m)
include hm
theorem mem_diff {A B z : Nat} : z ∈ mem (diffN m A B) ↔ ∃ x ∈ mem A, ∃ y ∈ mem B, addN m x (negN m y) = z := by
  unfold diffN
  rw [mem_sumN hm]
  constructor
  · rintro ⟨x, hx, y, hy, rfl⟩
    obtain ⟨b, hb, rfl⟩ := (mem_oppN hm).1 hy
    exact ⟨x, hx, b, hb, rfl⟩
  · rintro ⟨x, hx, y, hy, rfl⟩
    exact ⟨x, hx, negN m y, (mem_oppN hm).2 ⟨y, hy, rfl⟩, rfl⟩
theorem triangle {A B C : Nat} (hA : A < 2 ^ prodN m) (hB : B < 2 ^ prodN m) (hC : C < 2 ^ prodN m) :
    card (diffN m A C) * card B ≤ card (diffN m A B) * card (diffN m B C) := by
  have h1 := code_nodup hm B hA hB hC
  let K := (mem (diffN m A B)).flatMap fun u => (mem (diffN m B C)).map fun v => codeN (u, v)
  have hK : K.length = card (diffN m A B) * card (diffN m B C) := by
    show ((mem (diffN m A B)).flatMap fun u => (mem (diffN m B C)).map fun v => codeN (u, v)).length = _
    rw [List.length_flatMap]
    simp only [List.length_map]
    unfold card
    generalize mem (diffN m A B) = L
    induction L with
    | nil => simp
    | cons x r ih => simp only [List.map_cons, List.sum_cons, List.length_cons, ih, Nat.succ_mul]; omega
  have h2 := len_le_of_sub (K := K) h1 (fun z hz => by
    obtain ⟨p, hp, rfl⟩ := List.mem_map.1 hz
    obtain ⟨d, hd, hp⟩ := List.mem_flatMap.1 hp
    obtain ⟨v, hv, rfl⟩ := List.mem_map.1 hp
    obtain ⟨_, hx, hz⟩ := tx_spec hm hA hC hd
    refine List.mem_flatMap.2 ⟨_, (mem_diff hm).2 ⟨_, hx, v, hv, rfl⟩, List.mem_map.2 ⟨_, (mem_diff hm).2 ⟨v, hv, _, hz, rfl⟩, rfl⟩⟩)
  rw [List.length_map, tri_length, hK] at h2
  exact h2
theorem opp_opp {A : Nat} (hA : A < 2 ^ prodN m) : oppN m (oppN m A) = A := by
  refine ext_mem (hm.lt24 (hm.opp_lt _)) (hm.lt24 hA) fun z => ?_
  rw [mem_oppN hm]
  constructor
  · rintro ⟨y, hy, rfl⟩
    obtain ⟨x, hx, rfl⟩ := (mem_oppN hm).1 hy
    rw [hm.neg_neg (hm.mlt hA hx)]; exact hx
  · intro hz
    exact ⟨negN m z, (mem_oppN hm).2 ⟨z, hz, rfl⟩, hm.neg_neg (hm.mlt hA hz)⟩
theorem neg_sum (x y : Nat) : negN m (addN m x y) = addN m (negN m x) (negN m y) := by
  refine (hm.neg_unique (hm.add_lt _ _) ?_).symm
  rw [hm.comm4, hm.add_neg, hm.add_neg, hm.zero_add hm.pos]
theorem opp_sum (A B : Nat) : sumN m (oppN m A) (oppN m B) = oppN m (sumN m A B) := by
  refine ext_mem (hm.lt24 (hm.sum_lt _ _)) (hm.lt24 (hm.opp_lt _)) fun z => ?_
  rw [mem_sumN hm, mem_oppN hm]
  constructor
  · rintro ⟨x, hx, y, hy, rfl⟩
    obtain ⟨a, ha, rfl⟩ := (mem_oppN hm).1 hx
    obtain ⟨b, hb, rfl⟩ := (mem_oppN hm).1 hy
    exact ⟨_, (mem_sumN hm).2 ⟨a, ha, b, hb, rfl⟩, neg_sum hm a b⟩
  · rintro ⟨y, hy, rfl⟩
    obtain ⟨a, ha, b, hb, rfl⟩ := (mem_sumN hm).1 hy
    exact ⟨_, (mem_oppN hm).2 ⟨a, ha, rfl⟩, _, (mem_oppN hm).2 ⟨b, hb, rfl⟩, (neg_sum hm a b).symm⟩
theorem sum_difference {A : Nat} (hA : A < 2 ^ prodN m) : card (diffN m A A) * card A ≤ card (sumN m A A) * card (sumN m A A) := by
  have h := triangle hm hA (hm.opp_lt A) hA
  rw [card_opp hm hA] at h
  have e1 : diffN m A (oppN m A) = sumN m A A := by unfold diffN; rw [opp_opp hm hA]
  have e2 : diffN m (oppN m A) A = oppN m (sumN m A A) := opp_sum hm A A
  rw [e1, e2, card_opp hm (hm.sum_lt A A)] at h
  exact h

/-! ### covers -/
/-- what the packing holds behind k elements -/
theorem pack_spec {A B : Nat} (hA : A < 2 ^ prodN m) (hB : B < 2 ^ prodN m) (hB0 : B ≠ 0) : ∀ k, k ≤ (mem A).length → ∃ O R, packTo m B (mem A) k = (O, R) ∧ O < 2 ^ prodN m ∧
    (∀ x ∈ mem O, ∃ j, j < k ∧ (mem A).getD j 0 = x) ∧ (∀ z, z ∈ mem R ↔ z ∈ mem (sumN m O B)) ∧ card R = card O * card B ∧ R < 2 ^ prodN m ∧
    ∀ j, j < k → ∃ b ∈ mem B, addN m ((mem A).getD j 0) b ∈ mem R
  | 0, _ => ⟨0, 0, rfl, Nat.two_pow_pos _, fun x hx => by simp [mem_iff] at hx, fun z => by
      rw [mem_sumN hm]
      constructor
      · intro hz; simp [mem_iff] at hz
      · rintro ⟨x, hx, _⟩; simp [mem_iff] at hx, by rw [card_zero, Nat.zero_mul], Nat.two_pow_pos _, fun j hj => by omega⟩
  | k + 1, hk => by
    obtain ⟨O, R, hP, hO, hs, hR, hc, hRl, hcov⟩ := pack_spec hA hB hB0 k (by omega)
    obtain ⟨x, hx⟩ : ∃ x, (mem A).getD k 0 = x := ⟨_, rfl⟩
    have hxA : x ∈ mem A := by rw [← hx]; exact getD_mem _ 0 k (by omega)
    have hxn := hm.mlt hA hxA
    have hx24 : x < 24 := mem_lt hxA
    by_cases h : shiftN m B x &&& R = 0
    · have hpw : ∀ y, y ∈ mem (pw x) ↔ y = x := fun y => mem_pw hx24
      have hpl : pw x < 2 ^ prodN m := by rw [pw_eq]; exact Nat.pow_lt_pow_right (by omega) hxn
      have hxO : ∀ z ∈ mem O, z ≠ x := fun z hz e => by
        subst e
        obtain ⟨b, hb⟩ := mem_of_card (ne_zero_card (hm.lt24 hB) hB0)
        have h1 : addN m z b ∈ mem (shiftN m B z) := (mem_shiftN hm).2 ⟨b, hb, rfl⟩
        have h2 : addN m z b ∈ mem R := (hR _).2 ((mem_sumN hm).2 ⟨z, hz, b, hb, rfl⟩)
        exact ne_zero_of_mem (mem_and.2 ⟨h1, h2⟩) h
      refine ⟨_, _, packTo_yes hP hx h, Nat.or_lt_two_pow hO hpl, fun z hz => ?_, fun z => ?_, ?_, Nat.or_lt_two_pow hRl (hm.shift_lt _ _), fun j hj => ?_⟩
      · rcases mem_or.1 hz with hz | hz
        · obtain ⟨j, hj, e⟩ := hs z hz; exact ⟨j, by omega, e⟩
        · exact ⟨k, by omega, by rw [hx, (hpw z).1 hz]⟩
      · rw [mem_or, hR, mem_sumN hm, mem_sumN hm, mem_shiftN hm]
        constructor
        · rintro (⟨u, hu, v, hv, rfl⟩ | ⟨v, hv, rfl⟩)
          · exact ⟨u, mem_or.2 (.inl hu), v, hv, rfl⟩
          · exact ⟨x, mem_or.2 (.inr ((hpw x).2 rfl)), v, hv, rfl⟩
        · rintro ⟨u, hu, v, hv, rfl⟩
          rcases mem_or.1 hu with hu | hu
          · exact .inl ⟨u, hu, v, hv, rfl⟩
          · rw [(hpw u).1 hu]; exact .inr ⟨v, hv, rfl⟩
      · have e1 := card_or_and R (shiftN m B x)
        have e2 := card_or_and O (pw x)
        have z1 : R &&& shiftN m B x = 0 := by rw [Nat.and_comm]; exact h
        have z2 : O &&& pw x = 0 := by
          refine ext_mem (Nat.lt_of_le_of_lt Nat.and_le_left (hm.lt24 hO)) (by decide) fun z => ⟨fun hz => ?_, fun hz => by simp [mem_iff] at hz⟩
          have h1 := mem_and.1 hz
          exact absurd ((hpw z).1 h1.2) (hxO z h1.1)
        have e3 : card (pw x) = 1 := Nat.le_antisymm (card_le_one fun u hu v hv => by rw [(hpw u).1 hu, (hpw v).1 hv]) (card_one_le ((hpw x).2 rfl))
        rw [z1, card_zero, card_shift hm hB] at e1
        rw [z2, card_zero, e3] at e2
        rw [show card (R ||| shiftN m B x) = card R + card B from by omega, show card (O ||| pw x) = card O + 1 from by omega, hc, Nat.add_mul]; omega
      · by_cases e : j = k
        · subst e
          obtain ⟨b, hb⟩ := mem_of_card (ne_zero_card (hm.lt24 hB) hB0)
          exact ⟨b, hb, mem_or.2 (.inr ((mem_shiftN hm).2 ⟨b, hb, by rw [hx]⟩))⟩
        · obtain ⟨b, hb, h1⟩ := hcov j (by omega)
          exact ⟨b, hb, mem_or.2 (.inl h1)⟩
    · refine ⟨O, R, packTo_no hP hx h, hO, fun z hz => ?_, hR, hc, hRl, fun j hj => ?_⟩
      · obtain ⟨j, hj, e⟩ := hs z hz; exact ⟨j, by omega, e⟩
      · by_cases e : j = k
        · subst e
          obtain ⟨z, hz⟩ := mem_of_card (ne_zero_card (Nat.lt_of_le_of_lt Nat.and_le_left (hm.lt24 (hm.shift_lt _ _))) h)
          obtain ⟨h1, h2⟩ := mem_and.1 hz
          obtain ⟨b, hb, rfl⟩ := (mem_shiftN hm).1 h1
          exact ⟨b, hb, by rw [hx]; exact h2⟩
        · exact hcov j (by omega)
omit hm in
theorem getD_of_mem {L : List Nat} {x : Nat} (h : x ∈ L) : ∃ j, j < L.length ∧ L.getD j 0 = x := by
  obtain ⟨j, hj, e⟩ := List.mem_iff_getElem.1 h
  exact ⟨j, hj, by simp [List.getD_eq_getElem?_getD, List.getElem?_eq_getElem hj, e]⟩
theorem cover_spec {A B : Nat} (hA : A < 2 ^ prodN m) (hB : B < 2 ^ prodN m) (hB0 : B ≠ 0) :
    packN m A B < 2 ^ prodN m ∧ rcN m A B (packN m A B) = true ∧ card (packN m A B) * card B ≤ card (sumN m A B) := by
  obtain ⟨O, R, hP, hO, hs, hR, hc, hRl, hcov⟩ := pack_spec hm hA hB hB0 (mem A).length (Nat.le_refl _)
  have e : packN m A B = O := by unfold packN; rw [hP]
  rw [e]
  have hOA : ∀ x ∈ mem O, x ∈ mem A := fun x hx => by
    obtain ⟨j, hj, rfl⟩ := hs x hx; exact getD_mem _ 0 j hj
  have hRs : R = sumN m O B := ext_mem (hm.lt24 hRl) (hm.lt24 (hm.sum_lt _ _)) hR
  refine ⟨hO, ?_, ?_⟩
  · unfold rcN
    rw [Bool.and_eq_true, Bool.and_eq_true, decide_eq_true_eq, decide_eq_true_eq, decide_eq_true_eq]
    refine ⟨⟨?_, by rw [← hRs]; exact hc⟩, ?_⟩
    · exact part_and.2 (ext_mem (Nat.lt_of_le_of_lt Nat.and_le_left (hm.lt24 hO)) (hm.lt24 hO) fun x => ⟨fun h => (mem_and.1 h).1, fun h => mem_and.2 ⟨h, hOA x h⟩⟩)
    · refine part_and.2 (ext_mem (Nat.lt_of_le_of_lt Nat.and_le_left (hm.lt24 hA)) (hm.lt24 hA) fun x => ⟨fun h => (mem_and.1 h).1, fun h => mem_and.2 ⟨h, ?_⟩⟩)
      obtain ⟨j, hj, rfl⟩ := getD_of_mem h
      obtain ⟨b, hb, h1⟩ := hcov j hj
      rw [hRs] at h1
      exact (mem_diff hm).2 ⟨_, h1, b, hb, hm.add_sub b (hm.mlt hA h)⟩
  · rw [← hc, hRs]
    exact card_mono (sum_mono hm hOA fun x hx => hx)
end
end Go.Proofs.Ytpflnmcecnbilaa
