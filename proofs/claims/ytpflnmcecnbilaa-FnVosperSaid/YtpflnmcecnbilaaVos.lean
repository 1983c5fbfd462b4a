/-
  Contracts: the reason why the sum of two sets of a group of prime order is as small as it can be.
-/
import Derived.Test.YtpflnmcecnbilaaComb
import Derived.Test.YtpflnmcecnbilaaPrime
import Derived.Test.YtpflnmcecnbilaaCommon
import Derived.Test.YtpflnmcecnbilaaFull
import Derived.Test.YtpflnmcecnbilaaMulti
import Derived.Test.YtpflnmcecnbilaaBits
import Derived.Test.YtpflnmcecnbilaaSum
namespace Go.Proofs.Ytpflnmcecnbilaa
open Go.RowKit

/-- the words for the reasons -/
def vosW : Nat → ByteArray
  | 0 => { data := #[] }
  | 1 => { data := #[119, 104, 111, 108, 101] }
  | 2 => { data := #[108, 97, 114, 103, 101] }
  | 3 => { data := #[111, 110, 101] }
  | 4 => { data := #[115, 116, 101, 112, 115] }
  | 5 => { data := #[103, 97, 112] }
  | _ => { data := #[110, 111, 110, 101] }
/-- which reason: p the order, s the size of the sum, x and y the sizes of the sets -/
def vosC (p s x y : Nat) (steps : Bool) : Nat :=
  if s = p ∧ p + 1 ≤ x + y then 1 else if s + 1 ≠ x + y then 2 else if x = 1 ∨ y = 1 then 3 else if steps = true then 4 else if x + y = p then 5 else 6
def vosB (l : List Int) (a b : Int) : Bool := primN (ordN l) && full l a b
def vosF (l : List Int) (a b : Int) : Nat := if vosB l a b = true then vosC (ordN l) (card (sumN (toN l) a.toNat b.toNat)) (card a.toNat) (card b.toNat) (comB l a b) else 0
theorem vosF_yes {m : List Nat} {A B : Nat} (hm : Ok m) (h : vosB (cst m) A B = true) : vosF (cst m) A B = vosC (prodN m) (card (sumN m A B)) (card A) (card B) (comB (cst m) A B) := by
  unfold vosF; rw [if_pos h, ordN_yes hm, toN_cst, Int.toNat_natCast, Int.toNat_natCast]
theorem vosF_no {l : List Int} {a b : Int} (h : vosB l a b = false) : vosF l a b = 0 := by unfold vosF; rw [if_neg (by simp [h])]
theorem vosB_yes {l : List Int} {a b : Int} (h : vosB l a b = true) : primN (ordN l) = true ∧ full l a b = true := by simpa [vosB] using h
theorem vosB_no {l : List Int} {a b : Int} (h : vosB l a b = false) : primN (ordN l) = false ∨ (primN (ordN l) = true ∧ full l a b = false) := by
  unfold vosB at h
  cases h1 : primN (ordN l)
  · exact .inl rfl
  · exact .inr ⟨rfl, by simpa [h1] using h⟩
theorem ret_s {k j : Nat} (h : k = j) {s : ByteArray} (hs : s = vosW j) : Ending.returned (.string s) = .returned (.string (vosW k)) := by rw [h, hs]
/-- all ways through the choice; S the sum, F the whole set, s the size of the sum -/
theorem vos_cases {p S F s x y : Nat} {st : Bool} (hF : s = p ↔ S = F) (_hx : 1 ≤ x) (_hy : 1 ≤ y) :
    (((S : Int) == (F : Int)) = true ∧ ((s : Int) == (p : Int)) = true ∧ p + 1 ≤ x + y ∧ vosC p s x y st = 1) ∨
    (((S : Int) == (F : Int)) = true ∧ ((s : Int) == (p : Int)) = true ∧ x + y ≤ p ∧ ((s : Int) != (x : Int) + (y : Int) - 1) = true ∧ vosC p s x y st = 2) ∨
    (((S : Int) == (F : Int)) = false ∧ ((s : Int) == (p : Int)) = false ∧ ((s : Int) != (x : Int) + (y : Int) - 1) = true ∧ vosC p s x y st = 2) ∨
    (((S : Int) == (F : Int)) = false ∧ ((s : Int) == (p : Int)) = false ∧ ((s : Int) != (x : Int) + (y : Int) - 1) = false ∧ ((x : Int) == 1) = true ∧ vosC p s x y st = 3) ∨
    (((S : Int) == (F : Int)) = false ∧ ((s : Int) == (p : Int)) = false ∧ ((s : Int) != (x : Int) + (y : Int) - 1) = false ∧ ((x : Int) == 1) = false ∧ ((y : Int) == 1) = true ∧ vosC p s x y st = 3) ∨
    (((S : Int) == (F : Int)) = false ∧ ((s : Int) == (p : Int)) = false ∧ ((s : Int) != (x : Int) + (y : Int) - 1) = false ∧ ((x : Int) == 1) = false ∧ ((y : Int) == 1) = false ∧ st = true ∧ vosC p s x y st = 4) ∨
    (((S : Int) == (F : Int)) = false ∧ ((s : Int) == (p : Int)) = false ∧ ((s : Int) != (x : Int) + (y : Int) - 1) = false ∧ ((x : Int) == 1) = false ∧ ((y : Int) == 1) = false ∧ st = false ∧ ((x : Int) + (y : Int) - 1 == (p : Int) - 1) = true ∧ vosC p s x y st = 5) ∨
    (((S : Int) == (F : Int)) = false ∧ ((s : Int) == (p : Int)) = false ∧ ((s : Int) != (x : Int) + (y : Int) - 1) = false ∧ ((x : Int) == 1) = false ∧ ((y : Int) == 1) = false ∧ st = false ∧ ((x : Int) + (y : Int) - 1 == (p : Int) - 1) = false ∧ vosC p s x y st = 6) := by
  have e1 : ((S : Int) == (F : Int)) = decide (S = F) := by rw [Bool.eq_iff_iff, beq_iff_eq, decide_eq_true_eq]; omega
  have e2 : ((s : Int) == (p : Int)) = decide (s = p) := by rw [Bool.eq_iff_iff, beq_iff_eq, decide_eq_true_eq]; omega
  have e3 : ((s : Int) != (x : Int) + (y : Int) - 1) = decide (s + 1 ≠ x + y) := by rw [Bool.eq_iff_iff, bne_iff_ne, decide_eq_true_eq]; omega
  have e4 : ((x : Int) == 1) = decide (x = 1) := by rw [Bool.eq_iff_iff, beq_iff_eq, decide_eq_true_eq]; omega
  have e5 : ((y : Int) == 1) = decide (y = 1) := by rw [Bool.eq_iff_iff, beq_iff_eq, decide_eq_true_eq]; omega
  have e6 : ((x : Int) + (y : Int) - 1 == (p : Int) - 1) = decide (x + y = p) := by rw [Bool.eq_iff_iff, beq_iff_eq, decide_eq_true_eq]; omega
  rw [e1, e2, e3, e4, e5, e6]
  by_cases h1 : s = p
  · have h1' := hF.1 h1
    by_cases h2 : p + 1 ≤ x + y
    · left; simp [h1, h1', h2, vosC]
    · right; left
      have h3 : s + 1 ≠ x + y := by omega
      have h4 : ¬ (s = p ∧ p + 1 ≤ x + y) := fun h => h2 h.2
      refine ⟨by simp [h1'], by simp [h1], by omega, by simp [h3], ?_⟩
      unfold vosC; rw [if_neg h4, if_pos h3]
  · have h1' : ¬ S = F := fun h => h1 (hF.2 h)
    have h4 : ¬ (s = p ∧ p + 1 ≤ x + y) := fun h => h1 h.1
    right; right
    by_cases h3 : s + 1 = x + y
    · right
      have h3' : ¬ s + 1 ≠ x + y := fun h => h h3
      by_cases h5 : x = 1
      · left
        have h6 : x = 1 ∨ y = 1 := .inl h5
        refine ⟨by simp [h1'], by simp [h1], by simp [h3], by simp [h5], ?_⟩
        unfold vosC; rw [if_neg h4, if_neg h3', if_pos h6]
      · right
        by_cases h7 : y = 1
        · left
          have h6 : x = 1 ∨ y = 1 := .inr h7
          refine ⟨by simp [h1'], by simp [h1], by simp [h3], by simp [h5], by simp [h7], ?_⟩
          unfold vosC; rw [if_neg h4, if_neg h3', if_pos h6]
        · right
          have h6 : ¬ (x = 1 ∨ y = 1) := fun h => h.elim h5 h7
          cases st
          · right
            by_cases h8 : x + y = p
            · left
              refine ⟨by simp [h1'], by simp [h1], by simp [h3], by simp [h5], by simp [h7], rfl, by simp [h8], ?_⟩
              unfold vosC; rw [if_neg h4, if_neg h3', if_neg h6, if_neg (by simp), if_pos h8]
            · right
              refine ⟨by simp [h1'], by simp [h1], by simp [h3], by simp [h5], by simp [h7], rfl, by simp [h8], ?_⟩
              unfold vosC; rw [if_neg h4, if_neg h3', if_neg h6, if_neg (by simp), if_neg h8]
          · left
            refine ⟨by simp [h1'], by simp [h1], by simp [h3], by simp [h5], by simp [h7], rfl, ?_⟩
            unfold vosC; rw [if_neg h4, if_neg h3', if_neg h6, if_pos rfl]
    · left
      refine ⟨by simp [h1'], by simp [h1], by simp [h3], ?_⟩
      unfold vosC; rw [if_neg h4, if_pos h3]
set_option maxHeartbeats 1000000 in
theorem vosperCase_any (b off cap : Nat) (l : List Int) (x y : Int) (w : World) (hl : l.length ≤ 1099511627776) (hg : GrpAt w b off l) :
    Calls Try.prog 33 #[.agg #[.slice (some ⟨b, off, none⟩) l.length cap], .int .i64 x, .int .i64 y] w fun e w' => e = .returned (.string (vosW (vosF l x y))) ∧ Below w.heap.size w w' := by
  have hst := St.init cap 26 hg
  by_cases h : vosB l x y = true
  · obtain ⟨hp, hf⟩ := vosB_yes h
    have hf0 := full_iff.1 hf
    obtain ⟨m, A, B, hm, rfl, rfl, rfl, hA, hB, hA0, hB0⟩ := hf0
    have hr := hid (vosF_yes hm h)
    have hA' := Nat.lt_of_lt_of_le hA hm.pow_le
    have hB' := Nat.lt_of_lt_of_le hB hm.pow_le
    have hS := sumN_lt hm A B
    have hiff := full_iff_card hm.ord (hm.sum_lt A B)
    have hcA := card_le A
    have hcB := card_le B
    have hcS := card_le (sumN m A B)
    have hord := hm.ord
    have hA1 := ne_zero_card hA' hA0
    have hB1 := ne_zero_card hB' hB0
    have hcase := vos_cases (st := comB (cst m) A B) hiff hA1 hB1
    clear hA hB h hiff
    rcases hcase with ⟨h1, _, h3, hv0⟩ | ⟨h1, _, h3, h4, hv0⟩ | ⟨h1, _, h3, hv0⟩ | ⟨h1, _, h3, h4, hv0⟩ | ⟨h1, _, h3, h4, h5, hv0⟩ | ⟨h1, _, h3, h4, h5, h6, hv0⟩ | ⟨h1, _, h3, h4, h5, h6, h7, hv0⟩ | ⟨h1, _, h3, h4, h5, h6, h7, hv0⟩
    all_goals
      have hv := hid (hr.out.trans hv0)
      clear hv0
      go_enter Try.func33, Try.ntmps33
      go_wp2_with (first | (go_at_call 51; refine (isPrimeOrder_any _ _ _ _ _ hl (St.grp (by assumption))).mono ?_; rintro e wN ⟨rfl, hbN⟩; have hstN := St.step (by assumption) hbN; have hboxN := hstN.box; clear hbN) | (go_at_call 113; refine (areFull_any _ _ _ _ _ _ _ hl (St.grp (by assumption))).mono ?_; rintro e wN ⟨rfl, hbN⟩; have hstN := St.step (by assumption) hbN; have hboxN := hstN.box; clear hbN) | (go_at_call 130; refine (orderOf_yes _ _ _ _ _ hm (St.grp (by assumption))).mono ?_; rintro e wN ⟨rfl, hbN⟩; have hstN := St.step (by assumption) hbN; have hboxN := hstN.box; clear hbN) | (go_at_call 114; refine (bits_any _ _ (by omega)).mono ?_; rintro e wN ⟨rfl, rfl⟩) | (go_at_call 115; refine (sum_any _ _ _ _ _ _ _ hm (by omega) (by omega) (St.grp (by assumption))).mono ?_; rintro e wN ⟨rfl, hbN⟩; have hstN := St.step (by assumption) hbN; have hboxN := hstN.box; clear hbN) | (go_at_call 43; refine (commonDifference_any _ _ _ _ _ _ _ hl (St.grp (by assumption))).mono ?_; rintro e wN ⟨rfl, hbN⟩; have hstN := St.step (by assumption) hbN; have hboxN := hstN.box; clear hbN) | (go_at_call 131; refine (fullSet_yes _ _ _ _ _ hm (St.grp (by assumption))).mono ?_; rintro e wN ⟨rfl, hbN⟩; have hstN := St.step (by assumption) hbN; have hboxN := hstN.box; clear hbN))
      go_ret
      exact ⟨ret_s hv.out rfl, St.below (by assumption)⟩
  · have hn : vosB l x y = false := by simpa using h
    have hr := hid (vosF_no hn)
    rcases vosB_no hn with h1 | ⟨h1, h2⟩
    all_goals
      clear h hn
      go_enter Try.func33, Try.ntmps33
      go_wp2_with (first | (go_at_call 51; refine (isPrimeOrder_any _ _ _ _ _ hl (St.grp (by assumption))).mono ?_; rintro e wN ⟨rfl, hbN⟩; have hstN := St.step (by assumption) hbN; have hboxN := hstN.box; clear hbN) | (go_at_call 113; refine (areFull_any _ _ _ _ _ _ _ hl (St.grp (by assumption))).mono ?_; rintro e wN ⟨rfl, hbN⟩; have hstN := St.step (by assumption) hbN; have hboxN := hstN.box; clear hbN))
      go_ret
      exact ⟨ret_s hr.out rfl, St.below (by assumption)⟩
set_option maxHeartbeats 1000000 in
theorem sVosperCase_any (b off cap : Nat) (l : List Int) (x y : Int) (w : World) (hl : l.length ≤ 1099511627776) (hg : GrpAt w b off l) :
    Calls Try.prog 34 #[.agg #[.slice (some ⟨b, off, none⟩) l.length cap], .int .i64 x, .int .i64 y] w fun e w' => e = .returned (.string (vosW (vosF l x y))) ∧ Below w.heap.size w w' := by
  have hst := St.init cap 26 hg
  by_cases h : vosB l x y = true
  · obtain ⟨hp, hf⟩ := vosB_yes h
    obtain ⟨y1, y2, y3, y4⟩ := full_yes hf
    have hf0 := full_iff.1 hf
    obtain ⟨m, A, B, hm, rfl, rfl, rfl, hA, hB, hA0, hB0⟩ := hf0
    have hr := hid (vosF_yes hm h)
    have hA' := Nat.lt_of_lt_of_le hA hm.pow_le
    have hB' := Nat.lt_of_lt_of_le hB hm.pow_le
    have hS := sumN_lt hm A B
    have hiff := full_iff_card hm.ord (hm.sum_lt A B)
    have hcA := card_le A
    have hcB := card_le B
    have hcS := card_le (sumN m A B)
    have hord := hm.ord
    have hA1 := ne_zero_card hA' hA0
    have hB1 := ne_zero_card hB' hB0
    have hcase := vos_cases (st := comB (cst m) A B) hiff hA1 hB1
    clear hA hB h hiff
    rcases hcase with ⟨_, h1, h3, hv0⟩ | ⟨_, h1, h3, h4, hv0⟩ | ⟨_, h1, h3, hv0⟩ | ⟨_, h1, h3, h4, hv0⟩ | ⟨_, h1, h3, h4, h5, hv0⟩ | ⟨_, h1, h3, h4, h5, h6, hv0⟩ | ⟨_, h1, h3, h4, h5, h6, h7, hv0⟩ | ⟨_, h1, h3, h4, h5, h6, h7, hv0⟩
    all_goals
      have hv := hid (hr.out.trans hv0)
      clear hv0
      go_enter Try.func34, Try.ntmps34
      go_wp2_with (first | (go_at_call 52; refine (sIsPrimeOrder_any _ _ _ _ _ hl (St.grp (by assumption))).mono ?_; rintro e wN ⟨rfl, hbN⟩; have hstN := St.step (by assumption) hbN; have hboxN := hstN.box; clear hbN) | (go_at_call 64; refine (sIsSet_any _ _ _ _ _ _ hl (St.grp (by assumption))).mono ?_; rintro e wN ⟨rfl, hbN⟩; have hstN := St.step (by assumption) hbN; have hboxN := hstN.box; clear hbN) | (go_at_call 120; refine (l2Order_any _ _ _ _ _ hm (St.grp (by assumption))).mono ?_; rintro e wN ⟨rfl, hbN⟩; have hstN := St.step (by assumption) hbN; have hboxN := hstN.box; clear hbN) | (go_at_call 117; refine (l4Sum_any _ _ _ _ _ _ _ hm (by omega) (by omega) (St.grp (by assumption))).mono ?_; rintro e wN ⟨rfl, hbN⟩; have hstN := St.step (by assumption) hbN; have hboxN := hstN.box; clear hbN) | (go_at_call 116; refine (l3Bits_any _ _ (by omega)).mono ?_; rintro e wN ⟨rfl, rfl⟩) | (go_at_call 44; refine (sCommonDifference_any _ _ _ _ _ _ _ hl (St.grp (by assumption))).mono ?_; rintro e wN ⟨rfl, hbN⟩; have hstN := St.step (by assumption) hbN; have hboxN := hstN.box; clear hbN))
      go_ret
      exact ⟨ret_s hv.out rfl, St.below (by assumption)⟩
  · have hn : vosB l x y = false := by simpa using h
    have hr := hid (vosF_no hn)
    rcases vosB_no hn with h1 | ⟨h1, h2⟩
    · clear h hn
      go_enter Try.func34, Try.ntmps34
      go_wp2_with (first | (go_at_call 52; refine (sIsPrimeOrder_any _ _ _ _ _ hl (St.grp (by assumption))).mono ?_; rintro e wN ⟨rfl, hbN⟩; have hstN := St.step (by assumption) hbN; have hboxN := hstN.box; clear hbN))
      go_ret
      exact ⟨ret_s hr.out rfl, St.below (by assumption)⟩
    · clear h hn
      rcases full_no h2 with h3 | ⟨h3, h4⟩ | ⟨h3, h4, h5⟩ | ⟨h3, h4, h5, h6⟩
      all_goals
        go_enter Try.func34, Try.ntmps34
        go_wp2_with (first | (go_at_call 52; refine (sIsPrimeOrder_any _ _ _ _ _ hl (St.grp (by assumption))).mono ?_; rintro e wN ⟨rfl, hbN⟩; have hstN := St.step (by assumption) hbN; have hboxN := hstN.box; clear hbN) | (go_at_call 64; refine (sIsSet_any _ _ _ _ _ _ hl (St.grp (by assumption))).mono ?_; rintro e wN ⟨rfl, hbN⟩; have hstN := St.step (by assumption) hbN; have hboxN := hstN.box; clear hbN))
        go_ret
        exact ⟨ret_s hr.out rfl, St.below (by assumption)⟩
end Go.Proofs.Ytpflnmcecnbilaa
