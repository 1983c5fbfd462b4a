/-
  Contracts: numbers reckoned out of the sizes of sums.
-/
import Derived.Test.YtpflnmcecnbilaaSum
import Derived.Test.YtpflnmcecnbilaaFull
import Derived.Test.YtpflnmcecnbilaaBits
namespace Go.Proofs.Ytpflnmcecnbilaa
open Go.RowKit

theorem mul24 {a b : Nat} (ha : a ≤ 24) (hb : b ≤ 24) : 0 ≤ (a : Int) * (b : Int) ∧ (a : Int) * (b : Int) ≤ 576 := by
  have h : a * b ≤ 24 * 24 := Nat.mul_le_mul ha hb
  have h2 : ((a * b : Nat) : Int) ≤ 576 := by omega
  exact ⟨Int.mul_nonneg (by omega) (by omega), by simpa using h2⟩
theorem gap_wrap {a b c d : Nat} (ha : a ≤ 24) (hb : b ≤ 24) (hc : c ≤ 24) (hd : d ≤ 24) :
    IntKind.i64.wrap (IntKind.i64.wrap ((a : Int) * (b : Int)) - IntKind.i64.wrap ((c : Int) * (d : Int))) = (a : Int) * (b : Int) - (c : Int) * (d : Int) := by
  have h1 := mul24 ha hb
  have h2 := mul24 hc hd
  generalize (a : Int) * (b : Int) = p at *
  generalize (c : Int) * (d : Int) = q at *
  rw [IntKind.wrap_i64, IntKind.wrap_i64, IntKind.wrap_i64]; omega

def defectF (l : List Int) (a b : Int) : Int := if full l a b = true then ((card (sumN (toN l) a.toNat b.toNat) : Nat) : Int) - (card a.toNat : Nat) - (card b.toNat : Nat) + 1 else -100
theorem defectF_yes {m : List Nat} {A B : Nat} (h : full (cst m) A B = true) : defectF (cst m) A B = ((card (sumN m A B) : Nat) : Int) - (card A : Nat) - (card B : Nat) + 1 := by
  unfold defectF; rw [if_pos h, toN_cst, Int.toNat_natCast, Int.toNat_natCast]
theorem defectF_no {l : List Int} {a b : Int} (h : full l a b = false) : defectF l a b = -100 := by unfold defectF; rw [if_neg (by simp [h])]
set_option maxHeartbeats 400000 in
theorem sumDefect_any (b off cap : Nat) (l : List Int) (x y : Int) (w : World) (hl : l.length ≤ 1099511627776) (hg : GrpAt w b off l) :
    Calls Try.prog 90 #[.agg #[.slice (some ⟨b, off, none⟩) l.length cap], .int .i64 x, .int .i64 y] w fun e w' => e = .returned (.int .i64 (defectF l x y)) ∧ Below w.heap.size w w' := by
  have hst := St.init cap 26 hg
  by_cases hf : full l x y = true
  · have hf0 := full_iff.1 hf
    obtain ⟨m, A, B, hm, rfl, rfl, rfl, hA, hB, _, _⟩ := hf0
    have hr := hid (defectF_yes hf)
    have hA' := Nat.lt_of_lt_of_le hA hm.pow_le
    have hB' := Nat.lt_of_lt_of_le hB hm.pow_le
    have cA := card_le A
    have cB := card_le B
    have cS := card_le (sumN m A B)
    have hS := sumN_lt hm A B
    clear hA hB
    go_enter Try.func90, Try.ntmps90
    go_wp2_with (first | (go_at_call 113; refine (areFull_any _ _ _ _ _ _ _ hl (St.grp (by assumption))).mono ?_; rintro e wN ⟨rfl, hbN⟩; have hstN := St.step (by assumption) hbN; have hboxN := hstN.box; clear hbN) | (go_at_call 115; refine (sum_any _ _ _ _ _ _ _ hm (by omega) (by omega) (St.grp (by assumption))).mono ?_; rintro e wN ⟨rfl, hbN⟩; have hstN := St.step (by assumption) hbN; have hboxN := hstN.box; clear hbN) | (go_at_call 114; refine (bits_any _ _ (by omega)).mono ?_; rintro e wN ⟨rfl, rfl⟩))
    go_ret
    exact ⟨ret_i (by rw [hr.out]), St.below (by assumption)⟩
  · have hf' : full l x y = false := by simpa using hf
    have hr := hid (defectF_no hf')
    clear hf
    go_enter Try.func90, Try.ntmps90
    go_wp2_with (first | (go_at_call 113; refine (areFull_any _ _ _ _ _ _ _ hl (St.grp (by assumption))).mono ?_; rintro e wN ⟨rfl, hbN⟩; have hstN := St.step (by assumption) hbN; have hboxN := hstN.box; clear hbN))
    go_ret
    exact ⟨ret_i (by rw [hr.out]), St.below (by assumption)⟩
set_option maxHeartbeats 400000 in
theorem sSumDefect_any (b off cap : Nat) (l : List Int) (x y : Int) (w : World) (hl : l.length ≤ 1099511627776) (hg : GrpAt w b off l) :
    Calls Try.prog 91 #[.agg #[.slice (some ⟨b, off, none⟩) l.length cap], .int .i64 x, .int .i64 y] w fun e w' => e = .returned (.int .i64 (defectF l x y)) ∧ Below w.heap.size w w' := by
  have hst := St.init cap 26 hg
  by_cases hf : full l x y = true
  · have hf0 := full_iff.1 hf
    obtain ⟨y1, y2, y3, y4⟩ := full_yes hf
    obtain ⟨m, A, B, hm, rfl, rfl, rfl, hA, hB, _, _⟩ := hf0
    have hr := hid (defectF_yes hf)
    have hA' := Nat.lt_of_lt_of_le hA hm.pow_le
    have hB' := Nat.lt_of_lt_of_le hB hm.pow_le
    have cA := card_le A
    have cB := card_le B
    have cS := card_le (sumN m A B)
    have hS := sumN_lt hm A B
    clear hA hB
    go_enter Try.func91, Try.ntmps91
    go_wp2_with (first | (go_at_call 64; refine (sIsSet_any _ _ _ _ _ _ hl (St.grp (by assumption))).mono ?_; rintro e wN ⟨rfl, hbN⟩; have hstN := St.step (by assumption) hbN; have hboxN := hstN.box; clear hbN) | (go_at_call 117; refine (l4Sum_any _ _ _ _ _ _ _ hm (by omega) (by omega) (St.grp (by assumption))).mono ?_; rintro e wN ⟨rfl, hbN⟩; have hstN := St.step (by assumption) hbN; have hboxN := hstN.box; clear hbN) | (go_at_call 116; refine (l3Bits_any _ _ (by omega)).mono ?_; rintro e wN ⟨rfl, rfl⟩))
    go_ret
    exact ⟨ret_i (by rw [hr.out]), St.below (by assumption)⟩
  · have hf' : full l x y = false := by simpa using hf
    have hr := hid (defectF_no hf')
    clear hf
    rcases full_no hf' with h1 | ⟨h1, h2⟩ | ⟨h1, h2, h3⟩ | ⟨h1, h2, h3, h4⟩
    all_goals
      go_enter Try.func91, Try.ntmps91
      go_wp2_with (first | (go_at_call 64; refine (sIsSet_any _ _ _ _ _ _ hl (St.grp (by assumption))).mono ?_; rintro e wN ⟨rfl, hbN⟩; have hstN := St.step (by assumption) hbN; have hboxN := hstN.box; clear hbN))
      go_ret
      exact ⟨ret_i (by rw [hr.out]), St.below (by assumption)⟩

/-! ### the gap of Petridis -/
def petGap (m : List Nat) (X B C : Nat) : Int := ((card (sumN m X B) : Nat) : Int) * (card (sumN m X C) : Nat) - ((card (sumN m (sumN m X B) C) : Nat) : Int) * (card X : Nat)
def petF (l : List Int) (x b c : Int) : Int := if three l x b c = true then petGap (toN l) x.toNat b.toNat c.toNat else -1
theorem petF_yes {m : List Nat} {X B C : Nat} (h : three (cst m) X B C = true) : petF (cst m) X B C = petGap m X B C := by
  unfold petF; rw [if_pos h, toN_cst, Int.toNat_natCast, Int.toNat_natCast, Int.toNat_natCast]
theorem petF_no {l : List Int} {x b c : Int} (h : three l x b c = false) : petF l x b c = -1 := by unfold petF; rw [if_neg (by simp [h])]
set_option maxHeartbeats 1000000 in
theorem petridisGap_any (b off cap : Nat) (l : List Int) (x y z : Int) (w : World) (hl : l.length ≤ 1099511627776) (hg : GrpAt w b off l) :
    Calls Try.prog 19 #[.agg #[.slice (some ⟨b, off, none⟩) l.length cap], .int .i64 x, .int .i64 y, .int .i64 z] w fun e w' => e = .returned (.int .i64 (petF l x y z)) ∧ Below w.heap.size w w' := by
  have hst := St.init cap 26 hg
  have hst1 := hst.step ((Below.refl _ _).alloc (Nat.le_refl _) (.cells #[.int .i64 x, .int .i64 y, .int .i64 z] 3))
  have hg2 := GrpAt.three (w.alloc (.cells #[.slice (some ⟨b, off, none⟩) l.length cap] 26)) x y z 3 (w.heap.size + 1) (by simp)
  go_enter Try.func19, Try.ntmps19
  go_wp2_with fail
  refine (areSets_three _ _ _ _ _ _ _ _ _ _ hl hst1.grp hg2).mono ?_; rintro e w1 ⟨rfl, hb1⟩; have hst2 := hst1.step hb1; have hbox2 := hst2.box
  clear hst hst1 hg2 hb1 hg
  by_cases h : three l x y z = true
  · have h3 := three_iff.1 h
    obtain ⟨m, X, B, C, hm, rfl, rfl, rfl, rfl, hX, hB, hC⟩ := h3
    have hr := hid (petF_yes h)
    have hX' := Nat.lt_of_lt_of_le hX hm.pow_le
    have hB' := Nat.lt_of_lt_of_le hB hm.pow_le
    have hC' := Nat.lt_of_lt_of_le hC hm.pow_le
    have hS := sumN_lt hm X B
    have hT := sumN_lt hm X C
    have hU := sumN_lt hm (sumN m X B) C
    have hgap := hid (gap_wrap (card_le (sumN m X B)) (card_le (sumN m X C)) (card_le (sumN m (sumN m X B) C)) (card_le X))
    clear hX hB hC
    go_wp2_with (first | (go_at_call 115; refine (sum_any _ _ _ _ _ _ _ hm (by omega) (by omega) (St.grp (by assumption))).mono ?_; rintro e wN ⟨rfl, hbN⟩; have hstN := St.step (by assumption) hbN; have hboxN := hstN.box; clear hbN))
    have hst3 : St w b off cap (cst m) wN := by assumption
    have hst4 := hst3.drew
    clear hst2 hst3 hboxN hbox2
    go_region_held3 (fun w' => w'.cell? ⟨w.heap.size, 0, none⟩ = some (.slice (some ⟨b, off, none⟩) (cst m).length cap) ∧ St w b off cap (cst m) w') (first | exact ⟨hst4.box, hst4⟩ | exact St.keep (by assumption) hb1 | assumption)
      (first | (go_at_call 114; refine (bits_any _ _ (by omega)).mono ?_; rintro e w1 ⟨rfl, rfl⟩) | (go_at_call 115; refine (sum_any _ _ _ _ _ _ _ hm (by omega) (by omega) (St.grpOf (by assumption))).mono ?_; rintro e w1 ⟨rfl, hb1⟩))
    have hst5 : St w b off cap (cst m) w1 := And.right (by assumption)
    go_wp2
    go_ret
    exact ⟨ret_i (by rw [hr.out]; exact hgap.out), hst5.below⟩
  · have hn : three l x y z = false := by simpa using h
    have hr := hid (petF_no hn)
    clear h
    go_wp2
    go_ret
    exact ⟨ret_i (by rw [hr.out]), hst2.below⟩
set_option maxHeartbeats 1000000 in
theorem sPetridisGap_any (b off cap : Nat) (l : List Int) (x y z : Int) (w : World) (hl : l.length ≤ 1099511627776) (hg : GrpAt w b off l) :
    Calls Try.prog 28 #[.agg #[.slice (some ⟨b, off, none⟩) l.length cap], .int .i64 x, .int .i64 y, .int .i64 z] w fun e w' => e = .returned (.int .i64 (petF l x y z)) ∧ Below w.heap.size w w' := by
  have hst := St.init cap 26 hg
  by_cases h : three l x y z = true
  · have h3 := three_iff.1 h
    obtain ⟨y1, y2, y3⟩ := three_yes h
    obtain ⟨m, X, B, C, hm, rfl, rfl, rfl, rfl, hX, hB, hC⟩ := h3
    have hr := hid (petF_yes h)
    have hX' := Nat.lt_of_lt_of_le hX hm.pow_le
    have hB' := Nat.lt_of_lt_of_le hB hm.pow_le
    have hC' := Nat.lt_of_lt_of_le hC hm.pow_le
    have hS := sumN_lt hm X B
    have hT := sumN_lt hm X C
    have hU := sumN_lt hm (sumN m X B) C
    have hgap := hid (gap_wrap (card_le (sumN m X B)) (card_le (sumN m X C)) (card_le (sumN m (sumN m X B) C)) (card_le X))
    clear hX hB hC
    go_enter Try.func28, Try.ntmps28
    go_wp2_with (first | (go_at_call 64; refine (sIsSet_any _ _ _ _ _ _ hl (St.grp (by assumption))).mono ?_; rintro e wN ⟨rfl, hbN⟩; have hstN := St.step (by assumption) hbN; have hboxN := hstN.box; clear hbN) | (go_at_call 117; refine (l4Sum_any _ _ _ _ _ _ _ hm (by omega) (by omega) (St.grp (by assumption))).mono ?_; rintro e wN ⟨rfl, hbN⟩; have hstN := St.step (by assumption) hbN; have hboxN := hstN.box; clear hbN))
    have hst3 : St w b off cap (cst m) wN := by assumption
    have hst4 := hst3.drew
    clear hst hst3 hboxN
    go_region_held3 (fun w' => w'.cell? ⟨w.heap.size, 0, none⟩ = some (.slice (some ⟨b, off, none⟩) (cst m).length cap) ∧ St w b off cap (cst m) w') (first | exact ⟨hst4.box, hst4⟩ | exact St.keep (by assumption) hb1 | assumption)
      (first | (go_at_call 116; refine (l3Bits_any _ _ (by omega)).mono ?_; rintro e w1 ⟨rfl, rfl⟩) | (go_at_call 117; refine (l4Sum_any _ _ _ _ _ _ _ hm (by omega) (by omega) (St.grpOf (by assumption))).mono ?_; rintro e w1 ⟨rfl, hb1⟩))
    have hst5 : St w b off cap (cst m) w1 := And.right (by assumption)
    go_wp2
    go_ret
    exact ⟨ret_i (by rw [hr.out]; exact hgap.out), hst5.below⟩
  · have hn : three l x y z = false := by simpa using h
    have hr := hid (petF_no hn)
    clear h
    rcases three_no hn with h1 | ⟨h1, h2⟩ | ⟨h1, h2, h3⟩
    all_goals
      go_enter Try.func28, Try.ntmps28
      go_wp2_with (first | (go_at_call 64; refine (sIsSet_any _ _ _ _ _ _ hl (St.grp (by assumption))).mono ?_; rintro e wN ⟨rfl, hbN⟩; have hstN := St.step (by assumption) hbN; have hboxN := hstN.box; clear hbN))
      go_ret
      exact ⟨ret_i (by rw [hr.out]), St.below (by assumption)⟩
end Go.Proofs.Ytpflnmcecnbilaa
