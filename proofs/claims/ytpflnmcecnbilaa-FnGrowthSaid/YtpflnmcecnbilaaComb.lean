/-
  Plain facts: sets of a group as bits, counted; the transform of Davenport; the bounds of Cauchy, Davenport and Chowla; the theorem of Vosper.
-/
import Derived.Test.YtpflnmcecnbilaaCard
namespace Go.Proofs.Ytpflnmcecnbilaa

/-! ### sets and counts -/
theorem mem_iff {A x : Nat} : x ∈ mem A ↔ x < 24 ∧ A.testBit x = true := by simp only [mem, List.mem_filter, List.mem_range]
theorem mem_or {A B x : Nat} : x ∈ mem (A ||| B) ↔ x ∈ mem A ∨ x ∈ mem B := by
  simp only [mem_iff, Nat.testBit_or, Bool.or_eq_true]
  constructor
  · rintro ⟨h, h1 | h1⟩
    · exact .inl ⟨h, h1⟩
    · exact .inr ⟨h, h1⟩
  · rintro (⟨h, h1⟩ | ⟨h, h1⟩)
    · exact ⟨h, .inl h1⟩
    · exact ⟨h, .inr h1⟩
theorem mem_and {A B x : Nat} : x ∈ mem (A &&& B) ↔ x ∈ mem A ∧ x ∈ mem B := by
  simp only [mem_iff, Nat.testBit_and, Bool.and_eq_true]
  constructor
  · rintro ⟨h, h1, h2⟩; exact ⟨⟨h, h1⟩, h, h2⟩
  · rintro ⟨⟨h, h1⟩, _, h2⟩; exact ⟨h, h1, h2⟩
theorem mem_sdiff {A B x : Nat} : x ∈ mem (sdiff A B) ↔ x ∈ mem A ∧ x ∉ mem B := by
  simp only [mem_iff, testBit_sdiff, Bool.and_eq_true, Bool.not_eq_true']
  constructor
  · rintro ⟨h, h1, h2⟩; exact ⟨⟨h, h1⟩, fun h3 => by rw [h3.2] at h2; cases h2⟩
  · rintro ⟨⟨h, h1⟩, h2⟩
    refine ⟨h, h1, ?_⟩
    cases hb : B.testBit x
    · rfl
    · exact absurd ⟨h, hb⟩ h2
/-- a part: as the program asks it, and as the reference asks it -/
theorem part_and {x a : Nat} : sdiff x a = 0 ↔ x &&& a = x := by
  constructor
  · intro h
    apply Nat.eq_of_testBit_eq; intro i
    have := congrArg (fun z => z.testBit i) h
    simp only [testBit_sdiff, Nat.zero_testBit] at this
    rw [Nat.testBit_and]
    cases hx : x.testBit i <;> cases ha : a.testBit i <;> simp_all
  · intro h
    apply Nat.eq_of_testBit_eq; intro i
    have := congrArg (fun z => z.testBit i) h
    simp only [Nat.testBit_and] at this
    rw [testBit_sdiff, Nat.zero_testBit]
    cases hx : x.testBit i <;> cases ha : a.testBit i <;> simp_all
theorem part_sub {x a : Nat} (h : sdiff x a = 0) : ∀ y ∈ mem x, y ∈ mem a := fun y hy => by
  have h1 := part_and.1 h
  rw [← h1] at hy; exact (mem_and.1 hy).2
theorem count_or_and (f g : Nat → Bool) (L : List Nat) : (L.filter fun i => f i || g i).length + (L.filter fun i => f i && g i).length = (L.filter f).length + (L.filter g).length := by
  induction L with
  | nil => rfl
  | cons x r ih =>
    simp only [List.filter_cons]
    cases f x <;> cases g x <;> simp <;> omega
theorem count_split (f g : Nat → Bool) (L : List Nat) : (L.filter fun i => f i && !g i).length + (L.filter fun i => f i && g i).length = (L.filter f).length := by
  induction L with
  | nil => rfl
  | cons x r ih =>
    simp only [List.filter_cons]
    cases f x <;> cases g x <;> simp <;> omega
theorem count_not (p : Nat → Bool) (L : List Nat) : (L.filter p).length + (L.filter fun x => !p x).length = L.length := by
  induction L with
  | nil => rfl
  | cons x r ih =>
    simp only [List.filter_cons]
    cases p x <;> simp <;> omega
theorem card_or_and (A B : Nat) : card (A ||| B) + card (A &&& B) = card A + card B := by
  have h := count_or_and (fun i => A.testBit i) (fun i => B.testBit i) (List.range 24)
  simp only [card, mem, Nat.testBit_or, Nat.testBit_and]
  exact h
theorem card_sdiff_and (A B : Nat) : card (sdiff A B) + card (A &&& B) = card A := by
  have h := count_split (fun i => A.testBit i) (fun i => B.testBit i) (List.range 24)
  simp only [card, mem, testBit_sdiff, Nat.testBit_and]
  exact h
theorem card_one_le {A x : Nat} (h : x ∈ mem A) : 1 ≤ card A := List.length_pos_of_mem h
theorem mem_of_card {A : Nat} (h : 1 ≤ card A) : ∃ x, x ∈ mem A := ⟨(mem A)[0]'h, List.getElem_mem _⟩
theorem ne_zero_of_mem {A x : Nat} (h : x ∈ mem A) : A ≠ 0 := fun e => by subst e; simp [mem_iff] at h
theorem ne_zero_of_card {A : Nat} (h : 1 ≤ card A) : A ≠ 0 := by obtain ⟨x, hx⟩ := mem_of_card h; exact ne_zero_of_mem hx
theorem card_lt {A B x : Nat} (h : ∀ y ∈ mem A, y ∈ mem B) (hx : x ∈ mem B) (hn : x ∉ mem A) : card A < card B := by
  have h1 := card_sdiff_and B A
  have h2 := card_one_le (mem_sdiff.2 ⟨hx, hn⟩)
  have h3 : card A ≤ card (B &&& A) := card_mono fun y hy => mem_and.2 ⟨h y hy, hy⟩
  omega
theorem ext_mem {A B : Nat} (hA : A < 2 ^ 24) (hB : B < 2 ^ 24) (h : ∀ x, x ∈ mem A ↔ x ∈ mem B) : A = B := by
  rw [← ofL_mem hA, ← ofL_mem hB]; exact ofL_congr h
theorem eq_of_sub {A B : Nat} (hA : A < 2 ^ 24) (hB : B < 2 ^ 24) (h : ∀ x ∈ mem A, x ∈ mem B) (hc : card B ≤ card A) : A = B := by
  refine ext_mem hA hB fun x => ⟨h x, fun hx => ?_⟩
  by_cases hn : x ∈ mem A
  · exact hn
  · have := card_lt h hx hn; omega
theorem card_le_one {A : Nat} (h : ∀ x ∈ mem A, ∀ y ∈ mem A, x = y) : card A ≤ 1 := by
  have hn := mem_nodup A
  unfold card
  generalize mem A = L at *
  match L with
  | [] => simp
  | [_] => simp
  | x :: y :: r =>
    have := h x (by simp) y (by simp)
    subst this
    simp at hn
theorem eq_of_card_one {A x y : Nat} (h : card A ≤ 1) (hx : x ∈ mem A) (hy : y ∈ mem A) : x = y := by
  unfold card at h
  generalize mem A = L at *
  match L with
  | [] => cases hx
  | [z] => simp at hx hy; rw [hx, hy]
  | _ :: _ :: _ => simp at h
theorem ne_zero_card {A : Nat} (hA : A < 16777216) (h : A ≠ 0) : 1 ≤ card A := by obtain ⟨x, hx⟩ := card_pos hA h; exact card_one_le hx
/-- the elements below n with a property -/
def setN (n : Nat) (p : Nat → Bool) : Nat := ofL ((List.range n).filter p)
theorem setN_lt (n : Nat) (p : Nat → Bool) : setN n p < 2 ^ n := ofL_lt fun i hi => by
  simp only [List.mem_filter, List.mem_range] at hi; exact hi.1
theorem mem_setN {n : Nat} {p : Nat → Bool} {x : Nat} (hn : n ≤ 24) : x ∈ mem (setN n p) ↔ x < n ∧ p x = true := by
  unfold setN
  rw [mem_ofL (fun j hj => by simp only [List.mem_filter, List.mem_range] at hj; omega)]
  simp only [List.mem_filter, List.mem_range]
theorem card_ofL {L : List Nat} (hL : ∀ i ∈ L, i < 24) (hn : L.Nodup) : card (ofL L) = L.length :=
  Nat.le_antisymm (len_le_of_sub (mem_nodup _) fun _ hx => (mem_ofL hL).1 hx) (len_le_of_sub hn fun _ hx => (mem_ofL hL).2 hx)
theorem card_setN {n : Nat} {p : Nat → Bool} (hn : n ≤ 24) : card (setN n p) = ((List.range n).filter p).length :=
  card_ofL (fun i hi => by simp only [List.mem_filter, List.mem_range] at hi; omega) (List.Pairwise.filter _ List.nodup_range)
theorem card_setN_not {n : Nat} {p : Nat → Bool} (hn : n ≤ 24) : card (setN n p) + card (setN n fun x => !p x) = n := by
  rw [card_setN hn, card_setN hn, count_not, List.length_range]
theorem card_setN_split {n : Nat} {p q : Nat → Bool} (hn : n ≤ 24) : card (setN n fun x => p x && q x) + card (setN n fun x => p x && !q x) = card (setN n p) := by
  rw [card_setN hn, card_setN hn, card_setN hn]
  have := count_split p q (List.range n); omega
theorem setN_self {n A : Nat} (hn : n ≤ 24) (hA : A < 2 ^ n) : setN n (fun x => A.testBit x) = A := by
  have h24 := sub_lt_pow hn
  refine ext_mem (Nat.lt_of_lt_of_le (setN_lt _ _) h24) (Nat.lt_of_lt_of_le hA h24) fun x => ?_
  rw [mem_setN hn]
  exact ⟨fun h => mem_iff.2 ⟨by omega, h.2⟩, fun h => ⟨mem_of_lt hn hA h, mem_testBit h⟩⟩
theorem card_le_ord {n A : Nat} (hn : n ≤ 24) (hA : A < 2 ^ n) : card A ≤ n := by
  have h := card_setN_not (p := fun x => A.testBit x) hn
  rw [setN_self hn hA] at h; omega
theorem mem_full {n x : Nat} (hn : n ≤ 24) : x ∈ mem (pw n - 1) ↔ x < n := by
  rw [mem_iff, pw_eq, Nat.testBit_two_pow_sub_one, decide_eq_true_eq]; omega
theorem full_lt (n : Nat) : pw n - 1 < 2 ^ n := by have := Nat.two_pow_pos n; rw [pw_eq]; omega
theorem card_full {n : Nat} (hn : n ≤ 24) : card (pw n - 1) = n := by
  have h24 := sub_lt_pow hn
  have e : pw n - 1 = setN n fun _ => true := ext_mem (Nat.lt_of_lt_of_le (full_lt n) h24) (Nat.lt_of_lt_of_le (setN_lt _ _) h24) fun x => by
    rw [mem_full hn, mem_setN hn]; simp
  rw [e, card_setN hn, List.filter_eq_self.2 (fun _ _ => rfl), List.length_range]
theorem full_iff_card {n S : Nat} (hn : n ≤ 24) (hS : S < 2 ^ n) : card S = n ↔ S = pw n - 1 := by
  have h24 := sub_lt_pow hn
  constructor
  · intro h
    refine eq_of_sub (Nat.lt_of_lt_of_le hS h24) (Nat.lt_of_lt_of_le (full_lt n) h24) (fun x hx => (mem_full hn).2 (mem_of_lt hn hS hx)) ?_
    rw [card_full hn]; omega
  · rintro rfl; exact card_full hn

/-! ### elements -/
section
variable {m : List Nat} (hm : Ok m)
include hm
theorem Ok.lt24 {A : Nat} (hA : A < 2 ^ prodN m) : A < 2 ^ 24 := Nat.lt_of_lt_of_le hA hm.pow_le
theorem Ok.mlt {A x : Nat} (hA : A < 2 ^ prodN m) (h : x ∈ mem A) : x < prodN m := mem_of_lt hm.ord hA h
theorem Ok.tb {A x : Nat} (hA : A < 2 ^ prodN m) : A.testBit x = true ↔ x ∈ mem A := (mem_mem (hm.lt24 hA)).symm
theorem Ok.tbn {A x : Nat} (hA : A < 2 ^ prodN m) : A.testBit x = false ↔ x ∉ mem A := by rw [← hm.tb hA]; cases A.testBit x <;> simp
theorem Ok.neg_add (x : Nat) : addN m (negN m x) x = 0 := by rw [addN_comm, hm.add_neg]
theorem Ok.sub_add {x : Nat} (d : Nat) (hx : x < prodN m) : addN m (addN m x (negN m d)) d = x := by rw [hm.assoc, hm.neg_add, hm.add_zero hx]
theorem Ok.add_sub {x : Nat} (d : Nat) (hx : x < prodN m) : addN m (addN m x d) (negN m d) = x := by rw [hm.assoc, hm.add_neg, hm.add_zero hx]
theorem Ok.lcancel {x y a : Nat} (hx : x < prodN m) (hy : y < prodN m) (h : addN m a x = addN m a y) : x = y := hm.cancel hx hy (by rw [addN_comm m x a, addN_comm m y a]; exact h)
theorem Ok.neg_unique {x y : Nat} (hy : y < prodN m) (h : addN m x y = 0) : y = negN m x := hm.lcancel hy (hm.neg_lt x) (by rw [h, hm.add_neg])
theorem Ok.neg_neg {x : Nat} (hx : x < prodN m) : negN m (negN m x) = x := (hm.neg_unique hx (hm.neg_add x)).symm
theorem Ok.neg_inj {x y : Nat} (hx : x < prodN m) (hy : y < prodN m) (h : negN m x = negN m y) : x = y := by rw [← hm.neg_neg hx, ← hm.neg_neg hy, h]
theorem Ok.comm4 (a b c d : Nat) : addN m (addN m a b) (addN m c d) = addN m (addN m a c) (addN m b d) := by
  rw [hm.assoc, hm.assoc, ← hm.assoc b c d, addN_comm m b c, hm.assoc c b d]
theorem Ok.right_comm (a b c : Nat) : addN m (addN m a b) c = addN m (addN m a c) b := by rw [hm.assoc, hm.assoc, addN_comm m b c]
theorem Ok.shift_bd (A x : Nat) : shiftN m A x < 2 ^ prodN m := hm.shift_lt A x

/-! ### shifts, sums -/
theorem card_shift {A : Nat} (hA : A < 2 ^ prodN m) (x : Nat) : card (shiftN m A x) = card A := by
  refine Nat.le_antisymm (card_le_of_inj (fun z => addN m z (negN m x)) (fun u hu v hv e => ?_) (fun z hz => ?_)) (card_le_of_inj (fun y => addN m x y) (fun u hu v hv e => ?_) (fun y hy => (mem_shiftN hm).2 ⟨y, hy, rfl⟩))
  · exact hm.cancel (hm.mlt (hm.shift_lt A x) hu) (hm.mlt (hm.shift_lt A x) hv) e
  · obtain ⟨y, hy, rfl⟩ := (mem_shiftN hm).1 hz
    rw [addN_comm m x y, hm.add_sub x (hm.mlt hA hy)]; exact hy
  · exact hm.lcancel (hm.mlt hA hu) (hm.mlt hA hv) e
theorem sum_mono {A B C D : Nat} (h1 : ∀ x ∈ mem A, x ∈ mem C) (h2 : ∀ x ∈ mem B, x ∈ mem D) : ∀ z ∈ mem (sumN m A B), z ∈ mem (sumN m C D) := fun z hz => by
  obtain ⟨x, hx, y, hy, rfl⟩ := (mem_sumN hm).1 hz
  exact (mem_sumN hm).2 ⟨x, h1 x hx, y, h2 y hy, rfl⟩
theorem sum_comm (A B : Nat) : sumN m A B = sumN m B A := by
  refine ext_mem (hm.lt24 (hm.sum_lt A B)) (hm.lt24 (hm.sum_lt B A)) fun z => ?_
  rw [mem_sumN hm, mem_sumN hm]
  constructor
  · rintro ⟨x, hx, y, hy, rfl⟩; exact ⟨y, hy, x, hx, addN_comm m y x⟩
  · rintro ⟨x, hx, y, hy, rfl⟩; exact ⟨y, hy, x, hx, addN_comm m y x⟩
theorem sub_sum {A B : Nat} (hA : A < 2 ^ prodN m) (h0 : 0 ∈ mem B) : ∀ x ∈ mem A, x ∈ mem (sumN m A B) := fun x hx =>
  (mem_sumN hm).2 ⟨x, hx, 0, h0, hm.add_zero (hm.mlt hA hx)⟩
theorem card_le_sum {A B : Nat} (hA : A < 2 ^ prodN m) (hB : B ≠ 0) (hB' : B < 2 ^ prodN m) : card A ≤ card (sumN m A B) := card_sum_ge hm hA hB' hB
theorem sum_shift (A B t : Nat) : sumN m A (shiftN m B t) = shiftN m (sumN m A B) t := by
  refine ext_mem (hm.lt24 (hm.sum_lt _ _)) (hm.lt24 (hm.shift_lt _ _)) fun z => ?_
  rw [mem_sumN hm, mem_shiftN hm]
  constructor
  · rintro ⟨x, hx, y, hy, rfl⟩
    obtain ⟨b, hb, rfl⟩ := (mem_shiftN hm).1 hy
    exact ⟨addN m x b, (mem_sumN hm).2 ⟨x, hx, b, hb, rfl⟩, by rw [← hm.assoc, addN_comm m t x, hm.assoc]⟩
  · rintro ⟨y, hy, rfl⟩
    obtain ⟨x, hx, b, hb, rfl⟩ := (mem_sumN hm).1 hy
    exact ⟨x, hx, addN m t b, (mem_shiftN hm).2 ⟨b, hb, rfl⟩, by rw [← hm.assoc, addN_comm m x t, hm.assoc]⟩
theorem sum_assoc (A B C : Nat) : sumN m (sumN m A B) C = sumN m A (sumN m B C) := by
  refine ext_mem (hm.lt24 (hm.sum_lt _ _)) (hm.lt24 (hm.sum_lt _ _)) fun z => ?_
  rw [mem_sumN hm, mem_sumN hm]
  constructor
  · rintro ⟨x, hx, c, hc, rfl⟩
    obtain ⟨a, ha, b, hb, rfl⟩ := (mem_sumN hm).1 hx
    exact ⟨a, ha, addN m b c, (mem_sumN hm).2 ⟨b, hb, c, hc, rfl⟩, (hm.assoc a b c).symm⟩
  · rintro ⟨a, ha, y, hy, rfl⟩
    obtain ⟨b, hb, c, hc, rfl⟩ := (mem_sumN hm).1 hy
    exact ⟨addN m a b, (mem_sumN hm).2 ⟨a, ha, b, hb, rfl⟩, c, hc, hm.assoc a b c⟩
theorem card_opp {A : Nat} (hA : A < 2 ^ prodN m) : card (oppN m A) = card A := by
  refine Nat.le_antisymm (card_le_of_inj (negN m) (fun u hu v hv e => ?_) (fun z hz => ?_)) (card_le_of_inj (negN m) (fun u hu v hv e => ?_) (fun y hy => (mem_oppN hm).2 ⟨y, hy, rfl⟩))
  · exact hm.neg_inj (hm.mlt (hm.opp_lt A) hu) (hm.mlt (hm.opp_lt A) hv) e
  · obtain ⟨y, hy, rfl⟩ := (mem_oppN hm).1 hz
    rw [hm.neg_neg (hm.mlt hA hy)]; exact hy
  · exact hm.neg_inj (hm.mlt hA hu) (hm.mlt hA hv) e

/-! ### the transform -/
def trB (m : List Nat) (A B a : Nat) : Nat := setN (prodN m) fun b => B.testBit b && A.testBit (addN m a b)
def trA (m : List Nat) (A B a : Nat) : Nat := A ||| shiftN m B a
omit hm in
theorem trB_lt (m : List Nat) (A B a : Nat) : trB m A B a < 2 ^ prodN m := setN_lt _ _
theorem trA_lt {A : Nat} (hA : A < 2 ^ prodN m) (B a : Nat) : trA m A B a < 2 ^ prodN m := Nat.or_lt_two_pow hA (hm.shift_lt B a)
theorem mem_trB {A B a x : Nat} (hA : A < 2 ^ prodN m) (hB : B < 2 ^ prodN m) : x ∈ mem (trB m A B a) ↔ x ∈ mem B ∧ addN m a x ∈ mem A := by
  unfold trB
  rw [mem_setN hm.ord, Bool.and_eq_true, hm.tb hA, hm.tb hB]
  exact ⟨fun h => h.2, fun h => ⟨hm.mlt hB h.1, h⟩⟩
theorem tr_card {A B : Nat} (hA : A < 2 ^ prodN m) (hB : B < 2 ^ prodN m) (a : Nat) : card (trA m A B a) + card (trB m A B a) = card A + card B := by
  have h1 := card_or_and A (shiftN m B a)
  rw [card_shift hm hB] at h1
  have h2 : card (A &&& shiftN m B a) = card (trB m A B a) := by
    refine Nat.le_antisymm (card_le_of_inj (fun z => addN m z (negN m a)) (fun u hu v hv e => ?_) (fun z hz => ?_)) (card_le_of_inj (fun y => addN m a y) (fun u hu v hv e => ?_) (fun y hy => ?_))
    · exact hm.cancel (hm.mlt hA (mem_and.1 hu).1) (hm.mlt hA (mem_and.1 hv).1) e
    · obtain ⟨hz1, hz2⟩ := mem_and.1 hz
      obtain ⟨y, hy, rfl⟩ := (mem_shiftN hm).1 hz2
      rw [addN_comm m a y, hm.add_sub a (hm.mlt hB hy)]
      exact (mem_trB hm hA hB).2 ⟨hy, hz1⟩
    · exact hm.lcancel (hm.mlt hB ((mem_trB hm hA hB).1 hu).1) (hm.mlt hB ((mem_trB hm hA hB).1 hv).1) e
    · have h := (mem_trB hm hA hB).1 hy
      exact mem_and.2 ⟨h.2, (mem_shiftN hm).2 ⟨y, h.1, rfl⟩⟩
  unfold trA; omega
theorem tr_sub {A B : Nat} (hA : A < 2 ^ prodN m) (hB : B < 2 ^ prodN m) (a : Nat) : ∀ z ∈ mem (sumN m (trA m A B a) (trB m A B a)), z ∈ mem (sumN m A B) := fun z hz => by
  obtain ⟨x, hx, y, hy, rfl⟩ := (mem_sumN hm).1 hz
  have hy' := (mem_trB hm hA hB).1 hy
  rcases mem_or.1 hx with h | h
  · exact (mem_sumN hm).2 ⟨x, h, y, hy'.1, rfl⟩
  · obtain ⟨b, hb, rfl⟩ := (mem_shiftN hm).1 h
    exact (mem_sumN hm).2 ⟨addN m a y, hy'.2, b, hb, hm.right_comm a y b⟩
/-- the bound of Chowla: if no set is closed under a step of B but the great ones -/
theorem chowla {k : Nat} : ∀ (c A B : Nat), card B ≤ c → A < 2 ^ prodN m → B < 2 ^ prodN m → A ≠ 0 → 0 ∈ mem B →
    (∀ b ∈ mem B, b ≠ 0 → ∀ S, S < 2 ^ prodN m → S ≠ 0 → (∀ x ∈ mem S, addN m x b ∈ mem S) → k ≤ card S) →
    k ≤ card (sumN m A B) ∨ card A + card B ≤ card (sumN m A B) + 1
  | 0, A, B, hc, _, _, _, h0, _ => by have := card_one_le h0; omega
  | c + 1, A, B, hc, hA, hB, hAn, h0, hk => by
    by_cases h : ∃ a ∈ mem A, ∃ b ∈ mem B, addN m a b ∉ mem A
    · obtain ⟨a, ha, b, hb, hn⟩ := h
      have hsub : ∀ y ∈ mem (trB m A B a), y ∈ mem B := fun y hy => ((mem_trB hm hA hB).1 hy).1
      have hlt := card_lt hsub hb (fun h => hn ((mem_trB hm hA hB).1 h).2)
      have hz : 0 ∈ mem (trB m A B a) := (mem_trB hm hA hB).2 ⟨h0, by rw [hm.add_zero (hm.mlt hA ha)]; exact ha⟩
      have ih := chowla c (trA m A B a) (trB m A B a) (by omega) (trA_lt hm hA B a) (trB_lt m A B a) (ne_zero_of_mem (mem_or.2 (.inl ha))) hz (fun b' hb' => hk b' (hsub b' hb'))
      have hs := card_mono (tr_sub hm hA hB a)
      have hcd := tr_card hm hA hB a
      omega
    · have hcl : ∀ b ∈ mem B, ∀ x ∈ mem A, addN m x b ∈ mem A := fun b hb x hx => by
        by_cases h' : addN m x b ∈ mem A
        · exact h'
        · exact absurd ⟨x, hx, b, hb, h'⟩ h
      have hle := card_mono (sub_sum hm hA h0)
      by_cases hb : ∃ b ∈ mem B, b ≠ 0
      · obtain ⟨b, hb, hb0⟩ := hb
        have := hk b hb hb0 A hA hAn (hcl b hb)
        left; omega
      · right
        have h1 : card B ≤ 1 := card_le_one fun x hx y hy => by
          have hx0 : x = 0 := by by_cases e : x = 0; exact e; exact absurd ⟨x, hx, e⟩ hb
          have hy0 : y = 0 := by by_cases e : y = 0; exact e; exact absurd ⟨y, hy, e⟩ hb
          rw [hx0, hy0]
        omega

/-! ### groups of prime order -/
/-- no set but the whole one is closed under a step that is not 0 -/
def PrimeG (m : List Nat) : Prop := ∀ b, b < prodN m → b ≠ 0 → ∀ S, S < 2 ^ prodN m → S ≠ 0 → (∀ x ∈ mem S, addN m x b ∈ mem S) → prodN m ≤ card S
theorem cauchy_davenport_k {k : Nat} (hp : ∀ b, b < prodN m → b ≠ 0 → ∀ S, S < 2 ^ prodN m → S ≠ 0 → (∀ x ∈ mem S, addN m x b ∈ mem S) → k ≤ card S) {A B : Nat} (hA : A < 2 ^ prodN m) (hB : B < 2 ^ prodN m) (hAn : A ≠ 0) (hBn : B ≠ 0) :
    k ≤ card (sumN m A B) ∨ card A + card B ≤ card (sumN m A B) + 1 := by
  obtain ⟨b0, hb0⟩ := card_pos (hm.lt24 hB) hBn
  have hz : 0 ∈ mem (shiftN m B (negN m b0)) := (mem_shiftN hm).2 ⟨b0, hb0, hm.neg_add b0⟩
  have h := chowla hm (k := k) _ A (shiftN m B (negN m b0)) (Nat.le_refl _) hA (hm.shift_lt _ _) hAn hz (fun b hb => hp b (hm.mlt (hm.shift_lt _ _) hb))
  rw [sum_shift hm, card_shift hm (hm.sum_lt A B), card_shift hm hB] at h
  exact h
theorem cd (hp : PrimeG m) {A B : Nat} (hA : A < 2 ^ prodN m) (hB : B < 2 ^ prodN m) (hAn : A ≠ 0) (hBn : B ≠ 0) :
    prodN m ≤ card (sumN m A B) ∨ card A + card B ≤ card (sumN m A B) + 1 := cauchy_davenport_k hm hp hA hB hAn hBn

/-! ### progressions: sets with one end -/
def endsN (m : List Nat) (d S : Nat) : Nat := setN (prodN m) fun x => S.testBit x && !S.testBit (addN m x d)
def coreN (m : List Nat) (d S : Nat) : Nat := setN (prodN m) fun x => S.testBit x && S.testBit (addN m x d)
def startsN (m : List Nat) (d S : Nat) : Nat := setN (prodN m) fun x => !S.testBit x && S.testBit (addN m x d)
def AP (m : List Nat) (d S : Nat) : Prop := card (endsN m d S) ≤ 1
theorem mem_ends {d S x : Nat} (hS : S < 2 ^ prodN m) : x ∈ mem (endsN m d S) ↔ x ∈ mem S ∧ addN m x d ∉ mem S := by
  unfold endsN
  rw [mem_setN hm.ord, Bool.and_eq_true, Bool.not_eq_true', hm.tb hS, hm.tbn hS]
  exact ⟨fun h => h.2, fun h => ⟨hm.mlt hS h.1, h⟩⟩
theorem mem_core {d S x : Nat} (hS : S < 2 ^ prodN m) : x ∈ mem (coreN m d S) ↔ x ∈ mem S ∧ addN m x d ∈ mem S := by
  unfold coreN
  rw [mem_setN hm.ord, Bool.and_eq_true, hm.tb hS, hm.tb hS]
  exact ⟨fun h => h.2, fun h => ⟨hm.mlt hS h.1, h⟩⟩
theorem mem_starts {d S x : Nat} (hS : S < 2 ^ prodN m) : x ∈ mem (startsN m d S) ↔ x < prodN m ∧ x ∉ mem S ∧ addN m x d ∈ mem S := by
  unfold startsN
  rw [mem_setN hm.ord, Bool.and_eq_true, Bool.not_eq_true', hm.tb hS, hm.tbn hS]
theorem core_ends {d S : Nat} (hS : S < 2 ^ prodN m) : card (coreN m d S) + card (endsN m d S) = card S := by
  have h := card_setN_split (p := fun x => S.testBit x) (q := fun x => S.testBit (addN m x d)) hm.ord
  rw [setN_self hm.ord hS] at h; exact h
theorem ends_starts {d S : Nat} (hS : S < 2 ^ prodN m) : card (endsN m d S) = card (startsN m d S) := by
  have h1 := core_ends hm (d := d) hS
  have h2 := card_setN_split (p := fun x => S.testBit (addN m x d)) (q := fun x => S.testBit x) hm.ord
  have e1 : (setN (prodN m) fun x => S.testBit (addN m x d) && S.testBit x) = coreN m d S := by unfold coreN; congr 1; funext x; rw [Bool.and_comm]
  have e2 : (setN (prodN m) fun x => S.testBit (addN m x d) && !S.testBit x) = startsN m d S := by unfold startsN; congr 1; funext x; rw [Bool.and_comm]
  rw [e1, e2] at h2
  have h3 : card (setN (prodN m) fun x => S.testBit (addN m x d)) = card S := by
    refine Nat.le_antisymm (card_le_of_inj (fun x => addN m x d) (fun u hu v hv e => ?_) (fun z hz => ?_)) (card_le_of_inj (fun y => addN m y (negN m d)) (fun u hu v hv e => ?_) (fun y hy => ?_))
    · exact hm.cancel ((mem_setN hm.ord).1 hu).1 ((mem_setN hm.ord).1 hv).1 e
    · exact (hm.tb hS).1 ((mem_setN hm.ord).1 hz).2
    · exact hm.cancel (hm.mlt hS hu) (hm.mlt hS hv) e
    · refine (mem_setN hm.ord).2 ⟨hm.add_lt _ _, ?_⟩
      rw [hm.sub_add d (hm.mlt hS hy)]; exact mem_testBit hy
  omega
theorem AP.compl {d S : Nat} (hS : S < 2 ^ prodN m) (h : AP m d S) : AP m d (setN (prodN m) fun x => !S.testBit x) := by
  unfold AP at *
  rw [ends_starts hm hS] at h
  refine Nat.le_trans (card_mono fun x hx => ?_) h
  have hx' := (mem_ends hm (setN_lt _ _)).1 hx
  have h1 := (mem_setN hm.ord).1 hx'.1
  refine (mem_starts hm hS).2 ⟨h1.1, (hm.tbn hS).1 (by simpa using h1.2), ?_⟩
  by_cases h2 : addN m x d ∈ mem S
  · exact h2
  · exact absurd ((mem_setN hm.ord).2 ⟨hm.add_lt x d, by rw [(hm.tbn hS).2 h2]; rfl⟩) hx'.2
theorem AP.of_opp {d S : Nat} (hS : S < 2 ^ prodN m) (h : AP m d (oppN m S)) : AP m d S := by
  unfold AP at *
  rw [ends_starts hm (hm.opp_lt S)] at h
  refine Nat.le_trans (card_le_of_inj (fun x => negN m (addN m x d)) (fun u hu v hv e => ?_) (fun x hx => ?_)) h
  · have h1 := hm.neg_inj (hm.add_lt u d) (hm.add_lt v d) e
    exact hm.cancel (hm.mlt (setN_lt _ _) hu) (hm.mlt (setN_lt _ _) hv) h1
  · have hx' := (mem_ends hm hS).1 hx
    refine (mem_starts hm (hm.opp_lt S)).2 ⟨hm.neg_lt _, fun hc => ?_, ?_⟩
    · obtain ⟨y, hy, e⟩ := (mem_oppN hm).1 hc
      have := hm.neg_inj (hm.mlt hS hy) (hm.add_lt x d) e
      rw [this] at hy; exact hx'.2 hy
    · have e : addN m (negN m (addN m x d)) d = negN m x := by
        refine hm.neg_unique (hm.add_lt _ _) ?_
        rw [addN_comm m (negN m (addN m x d)) d, ← hm.assoc]; exact hm.add_neg _
      rw [e]; exact (mem_oppN hm).2 ⟨x, hx'.1, rfl⟩
theorem AP.of_shift {d S : Nat} (hS : S < 2 ^ prodN m) (t : Nat) (h : AP m d (shiftN m S t)) : AP m d S := by
  unfold AP at *
  refine Nat.le_trans (card_le_of_inj (fun x => addN m t x) (fun u hu v hv e => ?_) (fun x hx => ?_)) h
  · exact hm.lcancel (hm.mlt (setN_lt _ _) hu) (hm.mlt (setN_lt _ _) hv) e
  · have hx' := (mem_ends hm hS).1 hx
    refine (mem_ends hm (hm.shift_lt S t)).2 ⟨(mem_shiftN hm).2 ⟨x, hx'.1, rfl⟩, fun hc => hx'.2 ?_⟩
    obtain ⟨y, hy, e⟩ := (mem_shiftN hm).1 hc
    rw [hm.assoc] at e
    rw [← hm.lcancel (hm.mlt hS hy) (hm.add_lt x d) e]; exact hy
theorem AP.sum {d A B : Nat} (hA : A < 2 ^ prodN m) (hB : B < 2 ^ prodN m) (h1 : AP m d A) (h2 : AP m d B) : AP m d (sumN m A B) := by
  unfold AP
  have key : ∀ z ∈ mem (endsN m d (sumN m A B)), ∃ a ∈ mem (endsN m d A), ∃ b ∈ mem (endsN m d B), addN m a b = z := fun z hz => by
    obtain ⟨hz1, hz2⟩ := (mem_ends hm (hm.sum_lt A B)).1 hz
    obtain ⟨a, ha, b, hb, rfl⟩ := (mem_sumN hm).1 hz1
    refine ⟨a, (mem_ends hm hA).2 ⟨ha, fun hc => hz2 ?_⟩, b, (mem_ends hm hB).2 ⟨hb, fun hc => hz2 ?_⟩, rfl⟩
    · exact (mem_sumN hm).2 ⟨addN m a d, hc, b, hb, hm.right_comm a d b⟩
    · exact (mem_sumN hm).2 ⟨a, ha, addN m b d, hc, (hm.assoc a b d).symm⟩
  refine card_le_one fun x hx y hy => ?_
  obtain ⟨a, ha, b, hb, rfl⟩ := key x hx
  obtain ⟨a', ha', b', hb', rfl⟩ := key y hy
  rw [eq_of_card_one h1 ha ha', eq_of_card_one h2 hb hb']

/-! ### the theorem of Vosper -/
theorem ap_crit (hp : PrimeG m) {A B d : Nat} (hA : A < 2 ^ prodN m) (hB : B < 2 ^ prodN m) (h2 : 2 ≤ card A) (hBn : B ≠ 0)
    (hs : card (sumN m A B) + 1 = card A + card B) (hlt : card (sumN m A B) < prodN m) (hap : AP m d A) : AP m d B := by
  unfold AP at *
  have hc := core_ends hm (d := d) hA
  have hcb := core_ends hm (d := d) hB
  have hne : coreN m d A ≠ 0 := ne_zero_of_card (by omega)
  have hB' : B ||| shiftN m B d < 2 ^ prodN m := Nat.or_lt_two_pow hB (hm.shift_lt B d)
  have hsub : ∀ z ∈ mem (sumN m (coreN m d A) (B ||| shiftN m B d)), z ∈ mem (sumN m A B) := fun z hz => by
    obtain ⟨x, hx, y, hy, rfl⟩ := (mem_sumN hm).1 hz
    have hx' := (mem_core hm hA).1 hx
    rcases mem_or.1 hy with h | h
    · exact (mem_sumN hm).2 ⟨x, hx'.1, y, h, rfl⟩
    · obtain ⟨b, hb, rfl⟩ := (mem_shiftN hm).1 h
      exact (mem_sumN hm).2 ⟨addN m x d, hx'.2, b, hb, hm.assoc x d b⟩
  have hle := card_mono hsub
  obtain ⟨b0, hb0⟩ := card_pos (hm.lt24 hB) hBn
  have hcd := cd hm hp (A := coreN m d A) (setN_lt _ _) hB' hne (ne_zero_of_mem (mem_or.2 (.inl hb0)))
  have hor := card_or_and B (shiftN m B d)
  rw [card_shift hm hB] at hor
  have hand : card (B &&& shiftN m B d) ≤ card (coreN m d B) := by
    refine card_le_of_inj (fun z => addN m z (negN m d)) (fun u hu v hv e => hm.cancel (hm.mlt hB (mem_and.1 hu).1) (hm.mlt hB (mem_and.1 hv).1) e) (fun z hz => ?_)
    obtain ⟨hz1, hz2⟩ := mem_and.1 hz
    obtain ⟨y, hy, rfl⟩ := (mem_shiftN hm).1 hz2
    rw [addN_comm m d y, hm.add_sub d (hm.mlt hB hy)]
    rw [addN_comm m d y] at hz1
    exact (mem_core hm hB).2 ⟨hy, hz1⟩
  omega
theorem ap_of_sum (hp : PrimeG m) {A B d : Nat} (hA : A < 2 ^ prodN m) (hB : B < 2 ^ prodN m) (h2 : 2 ≤ card A) (h2' : 2 ≤ card B)
    (hs : card (sumN m A B) + 1 = card A + card B) (hlt : card (sumN m A B) + 2 ≤ prodN m) (hap : AP m d (sumN m A B)) : AP m d A ∧ AP m d B := by
  have hD := setN_lt (prodN m) fun x => !(sumN m A B).testBit x
  have hcD := card_setN_not (p := fun x => (sumN m A B).testBit x) hm.ord
  rw [setN_self hm.ord (hm.sum_lt A B)] at hcD
  have hapD := AP.compl hm (hm.sum_lt A B) hap
  have hmD : ∀ x, x ∈ mem (setN (prodN m) fun x => !(sumN m A B).testBit x) → x ∉ mem (sumN m A B) := fun x hx => (hm.tbn (hm.sum_lt A B)).1 (by simpa using ((mem_setN hm.ord).1 hx).2)
  generalize (setN (prodN m) fun x => !(sumN m A B).testBit x) = D at *
  have hE := hm.opp_lt B
  have hcE := card_opp hm hB
  have hcA := card_setN_not (p := fun x => A.testBit x) hm.ord
  rw [setN_self hm.ord hA] at hcA
  have hsub : ∀ z ∈ mem (sumN m D (oppN m B)), z ∈ mem (setN (prodN m) fun x => !A.testBit x) := fun z hz => by
    obtain ⟨x, hx, y, hy, rfl⟩ := (mem_sumN hm).1 hz
    obtain ⟨b, hb, rfl⟩ := (mem_oppN hm).1 hy
    refine (mem_setN hm.ord).2 ⟨hm.add_lt _ _, ?_⟩
    rw [Bool.not_eq_true', hm.tbn hA]
    intro hc
    refine hmD x hx ((mem_sumN hm).2 ⟨_, hc, b, hb, hm.sub_add b (hm.mlt hD hx)⟩)
  have hle := card_mono hsub
  have hcd := cd hm hp hD hE (ne_zero_of_card (by omega)) (ne_zero_of_card (by omega))
  have hsDE : card (sumN m D (oppN m B)) + 1 = card D + card (oppN m B) := by omega
  have hapE := ap_crit hm hp hD hE (by omega) (ne_zero_of_card (by omega)) hsDE (by omega) hapD
  have hapB := AP.of_opp hm hB hapE
  refine ⟨?_, hapB⟩
  rw [sum_comm hm] at hs hlt
  exact ap_crit hm hp hB hA h2' (ne_zero_of_card (by omega)) (by omega) (by omega) hapB
theorem vosper0 (hp : PrimeG m) : ∀ (c A B : Nat), card B ≤ c → A < 2 ^ prodN m → B < 2 ^ prodN m → 0 ∈ mem B → 2 ≤ card A → 2 ≤ card B →
    card (sumN m A B) + 1 = card A + card B → card (sumN m A B) + 2 ≤ prodN m → ∃ d, d < prodN m ∧ d ≠ 0 ∧ AP m d A ∧ AP m d B
  | 0, A, B, hc, _, _, _, _, h2, _, _ => by omega
  | c + 1, A, B, hc, hA, hB, h0, h2, h2', hs, hlt => by
    by_cases hB2 : card B = 2
    · -- B is 0 and d
      have hd : ∃ d ∈ mem B, d ≠ 0 := by
        by_cases h : ∃ d ∈ mem B, d ≠ 0
        · exact h
        · have : card B ≤ 1 := card_le_one fun x hx y hy => by
            have hx0 : x = 0 := by by_cases e : x = 0; exact e; exact absurd ⟨x, hx, e⟩ h
            have hy0 : y = 0 := by by_cases e : y = 0; exact e; exact absurd ⟨y, hy, e⟩ h
            rw [hx0, hy0]
          omega
      obtain ⟨d, hd, hd0⟩ := hd
      have hdn := hm.mlt hB hd
      have hall : ∀ x ∈ mem B, x = 0 ∨ x = d := fun x hx => by
        by_cases h1 : x = 0
        · exact .inl h1
        · by_cases h2 : x = d
          · exact .inr h2
          · have hL : [0, d, x].Nodup := by simp; omega
            have := len_le_of_sub hL (K := mem B) (fun y hy => by
              simp only [List.mem_cons, List.not_mem_nil, or_false] at hy
              rcases hy with rfl | rfl | rfl <;> assumption)
            have e : (mem B).length = 2 := hB2
            rw [e] at this; simp at this
      have hapB : AP m d B := by
        refine card_le_one fun x hx y hy => ?_
        have hend : ∀ z, z ∈ mem (endsN m d B) → z = d := fun z hz => by
          obtain ⟨hz1, hz2⟩ := (mem_ends hm hB).1 hz
          rcases hall z hz1 with rfl | h
          · rw [hm.zero_add hdn] at hz2; exact absurd hd hz2
          · exact h
        rw [hend x hx, hend y hy]
      refine ⟨d, hdn, hd0, ?_, hapB⟩
      rw [sum_comm hm] at hs hlt
      exact ap_crit hm hp hB hA h2' (ne_zero_of_card (by omega)) (by omega) (by omega) hapB
    · by_cases h : ∃ e ∈ mem A, (∃ b ∈ mem B, addN m e b ∉ mem A) ∧ 2 ≤ card (trB m A B e)
      · obtain ⟨e, he, ⟨b, hb, hn⟩, h2e⟩ := h
        have hsub : ∀ y ∈ mem (trB m A B e), y ∈ mem B := fun y hy => ((mem_trB hm hA hB).1 hy).1
        have hlt1 := card_lt hsub hb (fun h => hn ((mem_trB hm hA hB).1 h).2)
        have hz : 0 ∈ mem (trB m A B e) := (mem_trB hm hA hB).2 ⟨h0, by rw [hm.add_zero (hm.mlt hA he)]; exact he⟩
        have hcs := tr_card hm hA hB e
        have hts := tr_sub hm hA hB e
        have hle := card_mono hts
        have hAe := trA_lt hm hA B e
        have hBe := trB_lt m A B e
        have hAe1 : card A ≤ card (trA m A B e) := card_mono fun x hx => mem_or.2 (.inl hx)
        generalize trA m A B e = A' at *
        generalize trB m A B e = B' at *
        have hcd := cd hm hp hAe hBe (ne_zero_of_card (by omega)) (ne_zero_of_card (by omega))
        have heq := eq_of_sub (hm.lt24 (hm.sum_lt A' B')) (hm.lt24 (hm.sum_lt A B)) hts (by omega)
        rw [heq] at hcd
        obtain ⟨d, hd, hd0, hapA, hapB⟩ := vosper0 hp c A' B' (by omega) hAe hBe hz (by omega) h2e (by rw [heq]; omega) (by rw [heq]; omega)
        have hap := AP.sum hm hAe hBe hapA hapB
        rw [heq] at hap
        have := ap_of_sum hm hp hA hB h2 h2' hs hlt hap
        exact ⟨d, hd, hd0, this.1, this.2⟩
      · exfalso
        have hone : ∀ e ∈ mem A, (∃ b ∈ mem B, addN m e b ∉ mem A) → card (trB m A B e) ≤ 1 := fun e he hb => by
          by_cases h2e : 2 ≤ card (trB m A B e)
          · exact absurd ⟨e, he, hb, h2e⟩ h
          · omega
        have hq : ∀ x, ((mem B).all fun b => A.testBit (addN m x b)) = true ↔ ∀ b ∈ mem B, addN m x b ∈ mem A := fun x => by
          rw [List.all_eq_true]
          exact ⟨fun h b hb => (hm.tb hA).1 (h b hb), fun h b hb => (hm.tb hA).2 (h b hb)⟩
        have hsplit := card_setN_split (p := fun x => A.testBit x) (q := fun x => (mem B).all fun b => A.testBit (addN m x b)) hm.ord
        rw [setN_self hm.ord hA] at hsplit
        have hY := setN_lt (prodN m) fun x => A.testBit x && (mem B).all fun b => A.testBit (addN m x b)
        have hX := setN_lt (prodN m) fun x => A.testBit x && !(mem B).all fun b => A.testBit (addN m x b)
        have mY : ∀ x, x ∈ mem (setN (prodN m) fun x => A.testBit x && (mem B).all fun b => A.testBit (addN m x b)) → ∀ b ∈ mem B, addN m x b ∈ mem A := fun x hx => by
          have := ((mem_setN hm.ord).1 hx).2
          rw [Bool.and_eq_true] at this
          exact (hq x).1 this.2
        have mX : ∀ x, x ∈ mem (setN (prodN m) fun x => A.testBit x && !(mem B).all fun b => A.testBit (addN m x b)) → x ∈ mem A ∧ ∃ b ∈ mem B, addN m x b ∉ mem A := fun x hx => by
          have := ((mem_setN hm.ord).1 hx).2
          rw [Bool.and_eq_true, Bool.not_eq_true'] at this
          refine ⟨(hm.tb hA).1 this.1, ?_⟩
          by_cases hb : ∃ b ∈ mem B, addN m x b ∉ mem A
          · exact hb
          · have := (hq x).2 fun b hb' => by
              by_cases hc : addN m x b ∈ mem A
              · exact hc
              · exact absurd ⟨b, hb', hc⟩ hb
            simp_all
        generalize (setN (prodN m) fun x => A.testBit x && (mem B).all fun b => A.testBit (addN m x b)) = Y at *
        generalize (setN (prodN m) fun x => A.testBit x && !(mem B).all fun b => A.testBit (addN m x b)) = X at *
        have hAle := card_mono (sub_sum hm hA h0)
        -- the elements of B but 0
        have hBs := setN_lt (prodN m) fun x => B.testBit x && !(x == 0)
        have mBs : ∀ x, x ∈ mem (setN (prodN m) fun x => B.testBit x && !(x == 0)) ↔ x ∈ mem B ∧ x ≠ 0 := fun x => by
          rw [mem_setN hm.ord, Bool.and_eq_true, hm.tb hB, Bool.not_eq_true', beq_eq_false_iff_ne]
          exact ⟨fun h => h.2, fun h => ⟨hm.mlt hB h.1, h⟩⟩
        have cBs : card B ≤ card (setN (prodN m) fun x => B.testBit x && !(x == 0)) + 1 := by
          have h3 := card_setN_split (p := fun x => B.testBit x) (q := fun x => x == 0) hm.ord
          rw [setN_self hm.ord hB] at h3
          have h4 : card (setN (prodN m) fun x => B.testBit x && x == 0) ≤ 1 := card_le_one fun x hx y hy => by
            have hx' := ((mem_setN hm.ord).1 hx).2
            have hy' := ((mem_setN hm.ord).1 hy).2
            rw [Bool.and_eq_true, beq_iff_eq] at hx' hy'
            rw [hx'.2, hy'.2]
          omega
        generalize (setN (prodN m) fun x => B.testBit x && !(x == 0)) = Bs at *
        have hXge : 2 ≤ card X := by
          by_cases hYn : Y = 0
          · subst hYn; rw [card_zero] at hsplit; omega
          · have h5 : ∀ z ∈ mem (sumN m Y B), z ∈ mem A := fun z hz => by
              obtain ⟨x, hx, y, hy, rfl⟩ := (mem_sumN hm).1 hz
              exact mY x hx y hy
            have h6 := card_mono h5
            have h7 := cd hm hp hY hB hYn (ne_zero_of_mem h0)
            omega
        have h8 : ∀ z ∈ mem (sumN m X Bs), z ∈ mem (sdiff (sumN m A B) A) := fun z hz => by
          obtain ⟨x, hx, y, hy, rfl⟩ := (mem_sumN hm).1 hz
          obtain ⟨hx1, hx2⟩ := mX x hx
          obtain ⟨hy1, hy2⟩ := (mBs y).1 hy
          refine mem_sdiff.2 ⟨(mem_sumN hm).2 ⟨x, hx1, y, hy1, rfl⟩, fun hc => hy2 ?_⟩
          refine eq_of_card_one (hone x hx1 hx2) ((mem_trB hm hA hB).2 ⟨hy1, hc⟩) ((mem_trB hm hA hB).2 ⟨h0, ?_⟩)
          rw [hm.add_zero (hm.mlt hA hx1)]; exact hx1
        have h9 := card_mono h8
        have h10 := card_sdiff_and (sumN m A B) A
        have h11 : card A ≤ card (sumN m A B &&& A) := card_mono fun x hx => mem_and.2 ⟨sub_sum hm hA h0 x hx, hx⟩
        have h12 := cd hm hp hX hBs (ne_zero_of_card (by omega)) (ne_zero_of_card (by omega))
        omega
theorem vosper (hp : PrimeG m) {A B : Nat} (hA : A < 2 ^ prodN m) (hB : B < 2 ^ prodN m) (h2 : 2 ≤ card A) (h2' : 2 ≤ card B)
    (hs : card (sumN m A B) + 1 = card A + card B) (hlt : card (sumN m A B) + 2 ≤ prodN m) : ∃ d, d < prodN m ∧ d ≠ 0 ∧ AP m d A ∧ AP m d B := by
  obtain ⟨b0, hb0⟩ := mem_of_card (show 1 ≤ card B by omega)
  have hz : 0 ∈ mem (shiftN m B (negN m b0)) := (mem_shiftN hm).2 ⟨b0, hb0, hm.neg_add b0⟩
  have e : card (sumN m A (shiftN m B (negN m b0))) = card (sumN m A B) := by rw [sum_shift hm, card_shift hm (hm.sum_lt A B)]
  have e2 := card_shift hm hB (negN m b0)
  obtain ⟨d, hd, hd0, h3, h4⟩ := vosper0 hm hp _ A (shiftN m B (negN m b0)) (Nat.le_refl _) hA (hm.shift_lt _ _) hz h2 (by omega) (by omega) (by omega)
  exact ⟨d, hd, hd0, h3, AP.of_shift hm hB _ h4⟩
end
end Go.Proofs.Ytpflnmcecnbilaa
