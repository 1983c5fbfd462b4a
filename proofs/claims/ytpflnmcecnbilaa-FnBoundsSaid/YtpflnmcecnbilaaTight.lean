/-
  Contracts: tight pairs; the gaps of sums and differences; coverings.
-/
import Derived.Test.YtpflnmcecnbilaaKneser
import Derived.Test.YtpflnmcecnbilaaDefect
namespace Go.Proofs.Ytpflnmcecnbilaa
open Go.RowKit

def tightF (l : List Int) (a b : Int) : Bool := full l a b && decide (((card (sumN (toN l) a.toNat b.toNat) : Nat) : Int) = kneserF l a b)
theorem tightF_yes {m : List Nat} {A B : Nat} (h : full (cst m) A B = true) : tightF (cst m) A B = (((card (sumN m A B) : Nat) : Int) == kneserF (cst m) A B) := by
  unfold tightF; rw [h, toN_cst, Int.toNat_natCast, Int.toNat_natCast, Bool.true_and, Bool.eq_iff_iff]; simp
theorem tightF_no {l : List Int} {a b : Int} (h : full l a b = false) : tightF l a b = false := by unfold tightF; rw [h]; rfl
set_option maxHeartbeats 400000 in
theorem sIsKneserTight_any (b off cap : Nat) (l : List Int) (x y : Int) (w : World) (hl : l.length ≤ 1099511627776) (hg : GrpAt w b off l) :
    Calls Try.prog 93 #[.agg #[.slice (some ⟨b, off, none⟩) l.length cap], .int .i64 x, .int .i64 y] w fun e w' => e = .returned (.bool (tightF l x y)) ∧ Below w.heap.size w w' := by
  have hst := St.init cap 26 hg
  by_cases hf : full l x y = true
  · have hf0 := full_iff.1 hf
    obtain ⟨m, A, B, hm, rfl, rfl, rfl, hA, hB, hA0, _⟩ := hf0
    have hr := hid (tightF_yes hf)
    have hge : 0 ≤ kneserF (cst m) A B := by rw [kneserF_yes hf]; exact knB_ge hm hA hA0
    have hA' := Nat.lt_of_lt_of_le hA hm.pow_le
    have hB' := Nat.lt_of_lt_of_le hB hm.pow_le
    have hS := sumN_lt hm A B
    clear hA hB
    go_enter Try.func93, Try.ntmps93
    go_wp2_with (first | (go_at_call 165; refine (sKneserBound_any _ _ _ _ _ _ _ hl (St.grp (by assumption))).mono ?_; rintro e wN ⟨rfl, hbN⟩; have hstN := St.step (by assumption) hbN; have hboxN := hstN.box; clear hbN) | (go_at_call 117; refine (l4Sum_any _ _ _ _ _ _ _ hm (by omega) (by omega) (St.grp (by assumption))).mono ?_; rintro e wN ⟨rfl, hbN⟩; have hstN := St.step (by assumption) hbN; have hboxN := hstN.box; clear hbN) | (go_at_call 116; refine (l3Bits_any _ _ (by omega)).mono ?_; rintro e wN ⟨rfl, rfl⟩))
    go_ret
    exact ⟨ret_b (by rw [hr.out]), St.below (by assumption)⟩
  · have hf' : full l x y = false := by simpa using hf
    have hr := hid (tightF_no hf')
    have hlt : kneserF l x y < 0 := by rw [kneserF_no hf']; omega
    clear hf
    go_enter Try.func93, Try.ntmps93
    go_wp2_with (first | (go_at_call 165; refine (sKneserBound_any _ _ _ _ _ _ _ hl (St.grp (by assumption))).mono ?_; rintro e wN ⟨rfl, hbN⟩; have hstN := St.step (by assumption) hbN; have hboxN := hstN.box; clear hbN))
    go_ret
    exact ⟨ret_b (by rw [hr.out]), St.below (by assumption)⟩

/-! ### the gap of sums and differences -/
theorem gap_in {a b c d : Nat} (ha : a ≤ 24) (hb : b ≤ 24) (hc : c ≤ 24) (hd : d ≤ 24) : wrap64 (wrap64 ((a : Int) * (b : Int)) - wrap64 ((c : Int) * (d : Int))) = (a : Int) * (b : Int) - (c : Int) * (d : Int) := by
  have h1 := mul24 ha hb
  have h2 := mul24 hc hd
  generalize (a : Int) * (b : Int) = p at *
  generalize (c : Int) * (d : Int) = q at *
  rw [IntWalk.wrap64_in p (by omega), IntWalk.wrap64_in q (by omega), IntWalk.wrap64_in _ (by omega)]
def sdG (m : List Nat) (A : Nat) : Int := ((card (sumN m A A) : Nat) : Int) * (card (sumN m A A) : Nat) - ((card (diffN m A A) : Nat) : Int) * (card A : Nat)
def sdF (l : List Int) (a : Int) : Int := if isSetB l a = true then sdG (toN l) a.toNat else -1
theorem sdF_yes {m : List Nat} {A : Nat} (hm : Ok m) (hA : A < 2 ^ prodN m) : sdF (cst m) A = sdG m A := by
  unfold sdF; rw [if_pos (isSetB_nat hm hA), toN_cst, Int.toNat_natCast]
theorem sdF_no {l : List Int} {a : Int} (h : isSetB l a = false) : sdF l a = -1 := by unfold sdF; rw [if_neg (by simp [h])]
set_option maxHeartbeats 400000 in
theorem sumDifferenceGap_any (b off cap : Nat) (l : List Int) (a : Int) (w : World) (hl : l.length ≤ 1099511627776) (hg : GrpAt w b off l) :
    Calls Try.prog 72 #[.agg #[.slice (some ⟨b, off, none⟩) l.length cap], .int .i64 a] w fun e w' => e = .returned (.int .i64 (sdF l a)) ∧ Below w.heap.size w w' := by
  have hst := St.init cap 26 hg
  by_cases h : isSetB l a = true
  · have h3 := isSetB_iff.1 h
    obtain ⟨m, A, hm, rfl, rfl, hA⟩ := h3
    have hr := hid (sdF_yes hm hA)
    have hA' := Nat.lt_of_lt_of_le hA hm.pow_le
    have hS := sumN_lt hm A A
    have hD := diffN_lt hm A A
    have hgap := hid (gap_in (card_le (sumN m A A)) (card_le (sumN m A A)) (card_le (diffN m A A)) (card_le A))
    have b1 := mul24 (card_le (sumN m A A)) (card_le (sumN m A A))
    have b2 := mul24 (card_le (diffN m A A)) (card_le A)
    clear hA
    go_enter Try.func72, Try.ntmps72
    go_wp2_with (first | (go_at_call 132; refine (isSet_any _ _ _ _ _ _ hl (St.grp (by assumption))).mono ?_; rintro e wN ⟨rfl, hbN⟩; have hstN := St.step (by assumption) hbN; have hboxN := hstN.box; clear hbN) | (go_at_call 115; refine (sum_any _ _ _ _ _ _ _ hm (by omega) (by omega) (St.grp (by assumption))).mono ?_; rintro e wN ⟨rfl, hbN⟩; have hstN := St.step (by assumption) hbN; have hboxN := hstN.box; clear hbN) | (go_at_call 114; refine (bits_any _ _ (by omega)).mono ?_; rintro e wN ⟨rfl, rfl⟩) | (go_at_call 149; refine (difference_any _ _ _ _ _ _ _ hm (by omega) (by omega) (St.grp (by assumption))).mono ?_; rintro e wN ⟨rfl, hbN⟩; have hstN := St.step (by assumption) hbN; have hboxN := hstN.box; clear hbN))
    go_ret
    exact ⟨ret_i (by rw [hr.out]; first | rfl | exact hgap.out), St.below (by assumption)⟩
  · have hn : isSetB l a = false := by simpa using h
    have hr := hid (sdF_no hn)
    clear h
    go_enter Try.func72, Try.ntmps72
    go_wp2_with (first | (go_at_call 132; refine (isSet_any _ _ _ _ _ _ hl (St.grp (by assumption))).mono ?_; rintro e wN ⟨rfl, hbN⟩; have hstN := St.step (by assumption) hbN; have hboxN := hstN.box; clear hbN))
    go_ret
    exact ⟨ret_i (by rw [hr.out]), St.below (by assumption)⟩
set_option maxHeartbeats 400000 in
theorem sSumDifferenceGap_any (b off cap : Nat) (l : List Int) (a : Int) (w : World) (hl : l.length ≤ 1099511627776) (hg : GrpAt w b off l) :
    Calls Try.prog 75 #[.agg #[.slice (some ⟨b, off, none⟩) l.length cap], .int .i64 a] w fun e w' => e = .returned (.int .i64 (sdF l a)) ∧ Below w.heap.size w w' := by
  have hst := St.init cap 26 hg
  by_cases h : isSetB l a = true
  · have h3 := isSetB_iff.1 h
    obtain ⟨m, A, hm, rfl, rfl, hA⟩ := h3
    have hr := hid (sdF_yes hm hA)
    have hA' := Nat.lt_of_lt_of_le hA hm.pow_le
    have hS := sumN_lt hm A A
    have hD := diffN_lt hm A A
    have hgap := hid (gap_in (card_le (sumN m A A)) (card_le (sumN m A A)) (card_le (diffN m A A)) (card_le A))
    have b1 := mul24 (card_le (sumN m A A)) (card_le (sumN m A A))
    have b2 := mul24 (card_le (diffN m A A)) (card_le A)
    go_enter Try.func75, Try.ntmps75
    go_wp2_with (first | (go_at_call 64; refine (sIsSet_any _ _ _ _ _ _ hl (St.grp (by assumption))).mono ?_; rintro e wN ⟨rfl, hbN⟩; have hstN := St.step (by assumption) hbN; have hboxN := hstN.box; clear hbN) | (go_at_call 117; refine (l4Sum_any _ _ _ _ _ _ _ hm (by omega) (by omega) (St.grp (by assumption))).mono ?_; rintro e wN ⟨rfl, hbN⟩; have hstN := St.step (by assumption) hbN; have hboxN := hstN.box; clear hbN) | (go_at_call 116; refine (l3Bits_any _ _ (by omega)).mono ?_; rintro e wN ⟨rfl, rfl⟩) | (go_at_call 63; refine (sDifference_yes _ _ _ _ _ _ _ hm (by assumption) (by assumption) (St.grp (by assumption))).mono ?_; rintro e wN ⟨rfl, hbN⟩; have hstN := St.step (by assumption) hbN; have hboxN := hstN.box; clear hbN))
    go_ret
    exact ⟨ret_i (by rw [hr.out]; first | rfl | exact hgap.out), St.below (by assumption)⟩
  · have hn : isSetB l a = false := by simpa using h
    have hr := hid (sdF_no hn)
    clear h
    go_enter Try.func75, Try.ntmps75
    go_wp2_with (first | (go_at_call 64; refine (sIsSet_any _ _ _ _ _ _ hl (St.grp (by assumption))).mono ?_; rintro e wN ⟨rfl, hbN⟩; have hstN := St.step (by assumption) hbN; have hboxN := hstN.box; clear hbN))
    go_ret
    exact ⟨ret_i (by rw [hr.out]), St.below (by assumption)⟩

/-! ### the gap of triangles -/
def triG (m : List Nat) (A B C : Nat) : Int := ((card (diffN m A B) : Nat) : Int) * (card (diffN m B C) : Nat) - ((card (diffN m A C) : Nat) : Int) * (card B : Nat)
def triF (l : List Int) (a b c : Int) : Int := if three l a b c = true then triG (toN l) a.toNat b.toNat c.toNat else -1
theorem triF_yes {m : List Nat} {A B C : Nat} (h : three (cst m) A B C = true) : triF (cst m) A B C = triG m A B C := by
  unfold triF; rw [if_pos h, toN_cst, Int.toNat_natCast, Int.toNat_natCast, Int.toNat_natCast]
theorem triF_no {l : List Int} {a b c : Int} (h : three l a b c = false) : triF l a b c = -1 := by unfold triF; rw [if_neg (by simp [h])]
set_option maxHeartbeats 1000000 in
theorem triangleGap_any (b off cap : Nat) (l : List Int) (x y z : Int) (w : World) (hl : l.length ≤ 1099511627776) (hg : GrpAt w b off l) :
    Calls Try.prog 61 #[.agg #[.slice (some ⟨b, off, none⟩) l.length cap], .int .i64 x, .int .i64 y, .int .i64 z] w fun e w' => e = .returned (.int .i64 (triF l x y z)) ∧ Below w.heap.size w w' := by
  have hst := St.init cap 26 hg
  have hst1 := hst.step ((Below.refl _ _).alloc (Nat.le_refl _) (.cells #[.int .i64 x, .int .i64 y, .int .i64 z] 3))
  have hg2 := GrpAt.three (w.alloc (.cells #[.slice (some ⟨b, off, none⟩) l.length cap] 26)) x y z 3 (w.heap.size + 1) (by simp)
  go_enter Try.func61, Try.ntmps61
  go_wp2_with fail
  refine (areSets_three _ _ _ _ _ _ _ _ _ _ hl hst1.grp hg2).mono ?_; rintro e w1 ⟨rfl, hb1⟩; have hst2 := hst1.step hb1
  clear hst hst1 hg2 hb1 hg
  by_cases h : three l x y z = true
  · have h3 := three_iff.1 h
    obtain ⟨m, A, B, C, hm, rfl, rfl, rfl, rfl, hA, hB, hC⟩ := h3
    have hr := hid (triF_yes h)
    have hA' := Nat.lt_of_lt_of_le hA hm.pow_le
    have hB' := Nat.lt_of_lt_of_le hB hm.pow_le
    have hC' := Nat.lt_of_lt_of_le hC hm.pow_le
    have hS := diffN_lt hm A B
    have hT := diffN_lt hm B C
    have hU := diffN_lt hm A C
    have hgap := hid (gap_wrap (card_le (diffN m A B)) (card_le (diffN m B C)) (card_le (diffN m A C)) (card_le B))
    have hst4 := hst2.drew
    clear hA hB hC hst2
    go_wp2
    go_region_held3 (fun w' => w'.cell? ⟨w.heap.size, 0, none⟩ = some (.slice (some ⟨b, off, none⟩) (cst m).length cap) ∧ St w b off cap (cst m) w') (first | exact ⟨hst4.box, hst4⟩ | exact St.keep (by assumption) hb1 | assumption) (first | (go_at_call 149; refine (difference_any _ _ _ _ _ _ _ hm (by omega) (by omega) (St.grpOf (by assumption))).mono ?_; rintro e w1 ⟨rfl, hb1⟩) | (go_at_call 114; refine (bits_any _ _ (by omega)).mono ?_; rintro e w1 ⟨rfl, rfl⟩))
    have hst5 : St w b off cap (cst m) w1 := And.right (by assumption)
    go_wp2
    go_ret
    exact ⟨ret_i (by rw [hr.out]; exact hgap.out), hst5.below⟩
  · have hn : three l x y z = false := by simpa using h
    have hr := hid (triF_no hn)
    clear h
    go_wp2
    go_ret
    exact ⟨ret_i (by rw [hr.out]), hst2.below⟩
set_option maxHeartbeats 1000000 in
theorem sTriangleGap_any (b off cap : Nat) (l : List Int) (x y z : Int) (w : World) (hl : l.length ≤ 1099511627776) (hg : GrpAt w b off l) :
    Calls Try.prog 62 #[.agg #[.slice (some ⟨b, off, none⟩) l.length cap], .int .i64 x, .int .i64 y, .int .i64 z] w fun e w' => e = .returned (.int .i64 (triF l x y z)) ∧ Below w.heap.size w w' := by
  have hst := St.init cap 26 hg
  by_cases h : three l x y z = true
  · have h3 := three_iff.1 h
    obtain ⟨y1, y2, y3⟩ := three_yes h
    obtain ⟨m, A, B, C, hm, rfl, rfl, rfl, rfl, hA, hB, hC⟩ := h3
    have hr := hid (triF_yes h)
    have hB' := Nat.lt_of_lt_of_le hB hm.pow_le
    have hS := diffN_lt hm A B
    have hT := diffN_lt hm B C
    have hU := diffN_lt hm A C
    have hgap := hid (gap_wrap (card_le (diffN m A B)) (card_le (diffN m B C)) (card_le (diffN m A C)) (card_le B))
    have hA1 := hid hA
    have hB1 := hid hB
    have hC1 := hid hC
    clear h
    go_enter Try.func62, Try.ntmps62
    go_wp2_with (first | (go_at_call 64; refine (sIsSet_any _ _ _ _ _ _ hl (St.grp (by assumption))).mono ?_; rintro e wN ⟨rfl, hbN⟩; have hstN := St.step (by assumption) hbN; have hboxN := hstN.box; clear hbN))
    have hst3 : St w b off cap (cst m) wN := by assumption
    have hst4 := hst3.drew
    clear hst hst3 hboxN
    go_region_held3 (fun w' => w'.cell? ⟨w.heap.size, 0, none⟩ = some (.slice (some ⟨b, off, none⟩) (cst m).length cap) ∧ St w b off cap (cst m) w') (first | exact ⟨hst4.box, hst4⟩ | exact St.keep (by assumption) hb1 | assumption)
      (first | (go_at_call 116; refine (l3Bits_any _ _ (by omega)).mono ?_; rintro e w1 ⟨rfl, rfl⟩) | (go_at_call 63; refine (sDifference_yes _ _ _ _ _ _ _ hm (by assumption) (by assumption) (St.grpOf (by assumption))).mono ?_; rintro e w1 ⟨rfl, hb1⟩))
    have hst5 : St w b off cap (cst m) w1 := And.right (by assumption)
    go_wp2
    go_ret
    exact ⟨ret_i (by rw [hr.out]; exact hgap.out), hst5.below⟩
  · have hn : three l x y z = false := by simpa using h
    have hr := hid (triF_no hn)
    clear h
    rcases three_no hn with h1 | ⟨h1, h2⟩ | ⟨h1, h2, h3⟩
    all_goals
      go_enter Try.func62, Try.ntmps62
      go_wp2_with (first | (go_at_call 64; refine (sIsSet_any _ _ _ _ _ _ hl (St.grp (by assumption))).mono ?_; rintro e wN ⟨rfl, hbN⟩; have hstN := St.step (by assumption) hbN; have hboxN := hstN.box; clear hbN))
      go_ret
      exact ⟨ret_i (by rw [hr.out]), St.below (by assumption)⟩
end Go.Proofs.Ytpflnmcecnbilaa
