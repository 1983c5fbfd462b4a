/-
  Contracts: greatest common divisors; ratios in lowest terms.
-/
import Derived.Test.YtpflnmcecnbilaaDefect
import Derived.BigQuiet
import Derived.Deep.QuietTactic
namespace Go.Proofs.Ytpflnmcecnbilaa
open Go.RowKit

def gcdN (x y : Nat) : Nat := Nat.gcd x y
theorem gcdN_step {x y : Nat} : gcdN y (x % y) = gcdN x y := by
  unfold gcdN; rw [Nat.gcd_comm y, ← Nat.gcd_rec, Nat.gcd_comm]
theorem gcdN_zero (x : Nat) : gcdN x 0 = x := Nat.gcd_zero_right x
theorem gcdN_pos {x y : Nat} (h : 0 < y) : 0 < gcdN x y := Nat.gcd_pos_of_pos_right _ h
theorem gcdN_le {x y : Nat} (h : 0 < y) : gcdN x y ≤ y := Nat.gcd_le_right _ h
theorem below_drewN {B : Nat} {a w : World} (h : Below B a w) (n : Nat) : Below B a (w.drewN n) := h.trans ⟨rfl, rfl, rfl, Nat.le_refl _, fun _ _ => rfl⟩
theorem ret_2 {a b a' b' : Int} (h1 : a = a') (h2 : b = b') : Ending.returned (.tuple #[.int .i64 a, .int .i64 b]) = .returned (.tuple #[.int .i64 a', .int .i64 b']) := by rw [h1, h2]
set_option maxHeartbeats 400000 in
theorem gcd_any (x y : Nat) (w : World) (hx : x ≤ 16777216) (hy : y ≤ 16777216) :
    Calls Try.prog 175 #[.int .i64 x, .int .i64 y] w fun e w' => e = .returned (.int .i64 (gcdN x y : Nat)) ∧ Below w.heap.size w w' := by
  go_enter Try.func175, Try.ntmps175
  go_wp2
  go_loopw [0, 1] (fun u v wr => ∃ X Y : Nat, u = .int .i64 X ∧ v = .int .i64 Y ∧ X ≤ 16777216 ∧ Y ≤ 16777216 ∧ Hid (gcdN X Y = gcdN x y) ∧ Below w.heap.size w wr) (fun _ v _ => (intOf v).toNat)
  case atStart => exact ⟨x, y, rfl, rfl, hx, hy, rfl, Below.refl _ _⟩
  case round =>
    obtain ⟨X, Y, rfl, rfl, hX, hY, hr, hbw⟩ := hrel
    by_cases h0 : Y = 0
    · have he : Hid (X = gcdN x y) := by have := hr.out; rw [h0, gcdN_zero] at this; exact this
      subst h0
      go_wp2
      go_ret
      exact ⟨ret_i (by rw [← he.out]), hbw⟩
    · have hb : ((Y : Int) != 0) = true := by rw [bne_iff_ne]; omega
      have h1 : 1 ≤ Y := by omega
      have hm := Nat.mod_lt X (show Y > 0 by omega)
      have hr' : Hid (gcdN Y (X % Y) = gcdN x y) := by unfold Hid; rw [gcdN_step]; exact hr.out
      have hmi : 0 ≤ (X : Int) % (Y : Int) ∧ (X : Int) % (Y : Int) < (Y : Int) := ⟨Int.emod_nonneg _ (by omega), Int.emod_lt_of_pos _ (by omega)⟩
      clear h0
      go_wp2
      go_quiet (fail)
      go_wp2
      go_roundw
      case rel => exact ⟨Y, X % Y, rfl, by go_num, hY, by omega, hr', below_drewN hbw _⟩
      case measure => simp [intOf]; omega
set_option maxHeartbeats 400000 in
theorem l11Divisor_any (x y : Nat) (w : World) (hx : x ≤ 16777216) (hy : y ≤ 16777216) :
    Calls Try.prog 127 #[.int .i64 x, .int .i64 y] w fun e w' => e = .returned (.int .i64 (gcdN x y : Nat)) ∧ w = w' := by
  go_enter Try.func127, Try.ntmps127
  go_wp2
  go_loop [0, 1] (fun u v => ∃ X Y : Nat, u = .int .i64 X ∧ v = .int .i64 Y ∧ X ≤ 16777216 ∧ Y ≤ 16777216 ∧ Hid (gcdN X Y = gcdN x y)) (fun _ v => (intOf v).toNat)
  case atStart => exact ⟨x, y, rfl, rfl, hx, hy, rfl⟩
  case round =>
    obtain ⟨X, Y, rfl, rfl, hX, hY, hr⟩ := hrel
    by_cases h0 : Y = 0
    · have he : Hid (X = gcdN x y) := by have := hr.out; rw [h0, gcdN_zero] at this; exact this
      have hle : Y ≤ 0 := by omega
      clear h0
      go_wp2
      go_ret
      exact ⟨ret_i (by rw [← he.out]), rfl⟩
    · have h1 : 0 < Y := by omega
      have hm := Nat.mod_lt X (show Y > 0 by omega)
      have hr' : Hid (gcdN Y (X % Y) = gcdN x y) := by unfold Hid; rw [gcdN_step]; exact hr.out
      have hmi : 0 ≤ (X : Int) % (Y : Int) ∧ (X : Int) % (Y : Int) < (Y : Int) := ⟨Int.emod_nonneg _ (by omega), Int.emod_lt_of_pos _ (by omega)⟩
      clear h0
      go_wp2
      go_round
      case rel => exact ⟨Y, X % Y, rfl, by go_num, hY, by omega, hr'⟩
      case measure => simp [intOf]; omega
set_option maxHeartbeats 400000 in
theorem lowest_any (x y : Nat) (w : World) (hx : x ≤ 16777216) (hy : y ≤ 16777216) (h0 : 0 < y) :
    Calls Try.prog 118 #[.int .i64 x, .int .i64 y] w fun e w' => e = .returned (.tuple #[.int .i64 (x / gcdN x y : Nat), .int .i64 (y / gcdN x y : Nat)]) ∧ Below w.heap.size w w' := by
  have hg := gcdN_pos (x := x) h0
  have hgl := gcdN_le (x := x) h0
  have d1 := Nat.div_le_self x (gcdN x y)
  have d2 := Nat.div_le_self y (gcdN x y)
  have e1 := hid (Int.natCast_ediv x (gcdN x y))
  have e2 := hid (Int.natCast_ediv y (gcdN x y))
  have ww1 := hid (wrap_div (X := x) (o := gcdN x y) hx)
  have ww2 := hid (wrap_div (X := y) (o := gcdN x y) hy)
  go_enter Try.func118, Try.ntmps118
  go_wp2_with fail
  refine (gcd_any x y _ hx hy).mono ?_; rintro e w1 ⟨rfl, hb1⟩
  go_wp2
  go_quiet (fail)
  go_wp2
  go_ret2
  exact ⟨ret_2 (by first | rfl | (rw [ww1.out]) | (rw [e1.out])) (by first | rfl | (rw [ww2.out]) | (rw [e2.out])), below_drewN hb1 _⟩
/-- numerator and denominator -/
def ratA (m : List Nat) (X B : Nat) : Int := (card (sumN m X B) / gcdN (card (sumN m X B)) (card X) : Nat)
def ratB (m : List Nat) (X B : Nat) : Int := (card X / gcdN (card (sumN m X B)) (card X) : Nat)
def ratioA (l : List Int) (x b : Int) : Int := if full l x b = true then ratA (toN l) x.toNat b.toNat else 0
def ratioB (l : List Int) (x b : Int) : Int := if full l x b = true then ratB (toN l) x.toNat b.toNat else 0
theorem ratio_yes {m : List Nat} {X B : Nat} (h : full (cst m) X B = true) : ratioA (cst m) X B = ratA m X B ∧ ratioB (cst m) X B = ratB m X B := by
  unfold ratioA ratioB; rw [if_pos h, if_pos h, toN_cst, Int.toNat_natCast, Int.toNat_natCast]; exact ⟨rfl, rfl⟩
theorem ratio_no {l : List Int} {x b : Int} (h : full l x b = false) : ratioA l x b = 0 ∧ ratioB l x b = 0 := by
  unfold ratioA ratioB; rw [if_neg (by simp [h]), if_neg (by simp [h])]; exact ⟨rfl, rfl⟩
theorem card_pos' {A : Nat} (hA : A < 16777216) (h : A ≠ 0) : 0 < card A := by
  rcases Nat.eq_zero_or_pos (card A) with h0 | h0
  · exfalso; apply h
    have e : mem A = [] := List.eq_nil_of_length_eq_zero h0
    rw [← ofL_mem (A := A) hA, e]; rfl
  · exact h0
set_option maxHeartbeats 400000 in
theorem ratioOf_any (b off cap : Nat) (l : List Int) (x y : Int) (w : World) (hl : l.length ≤ 1099511627776) (hg : GrpAt w b off l) :
    Calls Try.prog 14 #[.agg #[.slice (some ⟨b, off, none⟩) l.length cap], .int .i64 x, .int .i64 y] w fun e w' => e = .returned (.tuple #[.int .i64 (ratioA l x y), .int .i64 (ratioB l x y)]) ∧ Below w.heap.size w w' := by
  have hst := St.init cap 26 hg
  by_cases hf : full l x y = true
  · have hf0 := full_iff.1 hf
    obtain ⟨m, A, B, hm, rfl, rfl, rfl, hA, hB, hA0, _⟩ := hf0
    have hr := hid (ratio_yes hf)
    have hA' := Nat.lt_of_lt_of_le hA hm.pow_le
    have hB' := Nat.lt_of_lt_of_le hB hm.pow_le
    have hS := sumN_lt hm A B
    have cA := card_le A
    have cS := card_le (sumN m A B)
    have cp := card_pos' hA' hA0
    clear hA hB hA0
    go_enter Try.func14, Try.ntmps14
    go_wp2_with (first | (go_at_call 113; refine (areFull_any _ _ _ _ _ _ _ hl (St.grp (by assumption))).mono ?_; rintro e wN ⟨rfl, hbN⟩; have hstN := St.step (by assumption) hbN; have hboxN := hstN.box; clear hbN) | (go_at_call 115; refine (sum_any _ _ _ _ _ _ _ hm (by omega) (by omega) (St.grp (by assumption))).mono ?_; rintro e wN ⟨rfl, hbN⟩; have hstN := St.step (by assumption) hbN; have hboxN := hstN.box; clear hbN) | (go_at_call 114; refine (bits_any _ _ (by omega)).mono ?_; rintro e wN ⟨rfl, rfl⟩))
    have hst2 : St w b off cap (cst m) wN := by assumption
    refine (lowest_any _ _ _ (by omega) (by omega) cp).mono ?_; rintro e w1 ⟨rfl, hb1⟩
    have hst3 := hst2.step hb1
    clear hst hboxN hst2
    go_wp2
    go_ret2
    exact ⟨ret_2 (by rw [hr.out.1]; rfl) (by rw [hr.out.2]; rfl), hst3.below⟩
  · have hf' : full l x y = false := by simpa using hf
    have hr := hid (ratio_no hf')
    clear hf
    go_enter Try.func14, Try.ntmps14
    go_wp2_with (first | (go_at_call 113; refine (areFull_any _ _ _ _ _ _ _ hl (St.grp (by assumption))).mono ?_; rintro e wN ⟨rfl, hbN⟩; have hstN := St.step (by assumption) hbN; have hboxN := hstN.box; clear hbN))
    go_ret2
    exact ⟨ret_2 (by rw [hr.out.1]) (by rw [hr.out.2]), St.below (by assumption)⟩
set_option maxHeartbeats 400000 in
theorem sRatioOf_any (b off cap : Nat) (l : List Int) (x y : Int) (w : World) (hl : l.length ≤ 1099511627776) (hg : GrpAt w b off l) :
    Calls Try.prog 26 #[.agg #[.slice (some ⟨b, off, none⟩) l.length cap], .int .i64 x, .int .i64 y] w fun e w' => e = .returned (.tuple #[.int .i64 (ratioA l x y), .int .i64 (ratioB l x y)]) ∧ Below w.heap.size w w' := by
  have hst := St.init cap 26 hg
  by_cases hf : full l x y = true
  · have hf0 := full_iff.1 hf
    obtain ⟨y1, y2, y3, y4⟩ := full_yes hf
    obtain ⟨m, A, B, hm, rfl, rfl, rfl, hA, hB, hA0, _⟩ := hf0
    have hr := hid (ratio_yes hf)
    have hA' := Nat.lt_of_lt_of_le hA hm.pow_le
    have hB' := Nat.lt_of_lt_of_le hB hm.pow_le
    have hS := sumN_lt hm A B
    have cA := card_le A
    have cS := card_le (sumN m A B)
    have cp := card_pos' hA' hA0
    have hg0 := gcdN_pos (x := card (sumN m A B)) cp
    have hgl := gcdN_le (x := card (sumN m A B)) cp
    have ww1 := hid (wrap_div (X := card (sumN m A B)) (o := gcdN (card (sumN m A B)) (card A)) (by omega))
    have ww2 := hid (wrap_div (X := card A) (o := gcdN (card (sumN m A B)) (card A)) (by omega))
    clear hA hB hA0
    go_enter Try.func26, Try.ntmps26
    go_wp2_with (first | (go_at_call 64; refine (sIsSet_any _ _ _ _ _ _ hl (St.grp (by assumption))).mono ?_; rintro e wN ⟨rfl, hbN⟩; have hstN := St.step (by assumption) hbN; have hboxN := hstN.box; clear hbN) | (go_at_call 117; refine (l4Sum_any _ _ _ _ _ _ _ hm (by omega) (by omega) (St.grp (by assumption))).mono ?_; rintro e wN ⟨rfl, hbN⟩; have hstN := St.step (by assumption) hbN; have hboxN := hstN.box; clear hbN) | (go_at_call 116; refine (l3Bits_any _ _ (by omega)).mono ?_; rintro e wN ⟨rfl, rfl⟩))
    have hst2 : St w b off cap (cst m) wN := by assumption
    refine (l11Divisor_any _ _ _ (by omega) (by omega)).mono ?_; rintro e w1 ⟨rfl, rfl⟩
    go_wp2
    go_quiet (fail)
    go_wp2
    go_ret2
    exact ⟨ret_2 (by rw [hr.out.1]; first | exact ww1.out | simp [ratA]) (by rw [hr.out.2]; first | exact ww2.out | simp [ratB]), (hst2.drewN _).below⟩
  · have hf' : full l x y = false := by simpa using hf
    have hr := hid (ratio_no hf')
    clear hf
    rcases full_no hf' with h1 | ⟨h1, h2⟩ | ⟨h1, h2, h3⟩ | ⟨h1, h2, h3, h4⟩
    all_goals
      go_enter Try.func26, Try.ntmps26
      go_wp2_with (first | (go_at_call 64; refine (sIsSet_any _ _ _ _ _ _ hl (St.grp (by assumption))).mono ?_; rintro e wN ⟨rfl, hbN⟩; have hstN := St.step (by assumption) hbN; have hboxN := hstN.box; clear hbN))
      go_ret2
      exact ⟨ret_2 (by rw [hr.out.1]) (by rw [hr.out.2]), St.below (by assumption)⟩

/-! ### doubling -/
def dblA (l : List Int) (a : Int) : Int := if full l a a = true then ratA (toN l) a.toNat a.toNat else 0
def dblB (l : List Int) (a : Int) : Int := if full l a a = true then ratB (toN l) a.toNat a.toNat else 0
theorem dbl_yes {m : List Nat} {X : Nat} (h : full (cst m) X X = true) : dblA (cst m) X = ratA m X X ∧ dblB (cst m) X = ratB m X X := by
  unfold dblA dblB; rw [if_pos h, if_pos h, toN_cst, Int.toNat_natCast]; exact ⟨rfl, rfl⟩
theorem dbl_no {l : List Int} {x : Int} (h : full l x x = false) : dblA l x = 0 ∧ dblB l x = 0 := by
  unfold dblA dblB; rw [if_neg (by simp [h]), if_neg (by simp [h])]; exact ⟨rfl, rfl⟩
theorem full_no1 {l : List Int} {x : Int} (h : full l x x = false) : isSetB l x = false ∨ (isSetB l x = true ∧ (x == 0) = true) := by
  simp only [full] at h
  cases h1 : isSetB l x <;> by_cases h3 : x = 0 <;> simp_all
set_option maxHeartbeats 400000 in
theorem doublingOf_any (b off cap : Nat) (l : List Int) (x : Int) (w : World) (hl : l.length ≤ 1099511627776) (hg : GrpAt w b off l) :
    Calls Try.prog 106 #[.agg #[.slice (some ⟨b, off, none⟩) l.length cap], .int .i64 x] w fun e w' => e = .returned (.tuple #[.int .i64 (dblA l x), .int .i64 (dblB l x)]) ∧ Below w.heap.size w w' := by
  have hst := St.init cap 26 hg
  by_cases hf : full l x x = true
  · obtain ⟨y1, _, y3, _⟩ := full_yes hf
    have hf0 := isSetB_iff.1 y1
    obtain ⟨m, A, hm, rfl, rfl, hA⟩ := hf0
    have hA0 : A ≠ 0 := by rw [beq_eq_false_iff_ne] at y3; omega
    have hr := hid (dbl_yes hf)
    have hA' := Nat.lt_of_lt_of_le hA hm.pow_le
    have hS := sumN_lt hm A A
    have cA := card_le A
    have cS := card_le (sumN m A A)
    have cp := card_pos' hA' hA0
    clear hA hA0 hf
    go_enter Try.func106, Try.ntmps106
    go_wp2_with (first | (go_at_call 132; refine (isSet_any _ _ _ _ _ _ hl (St.grp (by assumption))).mono ?_; rintro e wN ⟨rfl, hbN⟩; have hstN := St.step (by assumption) hbN; have hboxN := hstN.box; clear hbN) | (go_at_call 115; refine (sum_any _ _ _ _ _ _ _ hm (by omega) (by omega) (St.grp (by assumption))).mono ?_; rintro e wN ⟨rfl, hbN⟩; have hstN := St.step (by assumption) hbN; have hboxN := hstN.box; clear hbN) | (go_at_call 114; refine (bits_any _ _ (by omega)).mono ?_; rintro e wN ⟨rfl, rfl⟩))
    have hst2 : St w b off cap (cst m) wN := by assumption
    refine (lowest_any _ _ _ (by omega) (by omega) cp).mono ?_; rintro e w1 ⟨rfl, hb1⟩
    have hst3 := hst2.step hb1
    clear hst hboxN hst2
    go_wp2
    go_ret2
    exact ⟨ret_2 (by rw [hr.out.1]; rfl) (by rw [hr.out.2]; rfl), hst3.below⟩
  · have hf' : full l x x = false := by simpa using hf
    have hr := hid (dbl_no hf')
    clear hf
    rcases full_no1 hf' with h1 | ⟨h1, h2⟩
    all_goals
      go_enter Try.func106, Try.ntmps106
      go_wp2_with (first | (go_at_call 132; refine (isSet_any _ _ _ _ _ _ hl (St.grp (by assumption))).mono ?_; rintro e wN ⟨rfl, hbN⟩; have hstN := St.step (by assumption) hbN; have hboxN := hstN.box; clear hbN))
      go_ret2
      exact ⟨ret_2 (by rw [hr.out.1]) (by rw [hr.out.2]), St.below (by assumption)⟩
set_option maxHeartbeats 400000 in
theorem sDoublingOf_any (b off cap : Nat) (l : List Int) (x : Int) (w : World) (hl : l.length ≤ 1099511627776) (hg : GrpAt w b off l) :
    Calls Try.prog 107 #[.agg #[.slice (some ⟨b, off, none⟩) l.length cap], .int .i64 x] w fun e w' => e = .returned (.tuple #[.int .i64 (dblA l x), .int .i64 (dblB l x)]) ∧ Below w.heap.size w w' := by
  have hst := St.init cap 26 hg
  by_cases hf : full l x x = true
  · obtain ⟨y1, _, y3, _⟩ := full_yes hf
    have hf0 := isSetB_iff.1 y1
    obtain ⟨m, A, hm, rfl, rfl, hA⟩ := hf0
    have hA0 : A ≠ 0 := by rw [beq_eq_false_iff_ne] at y3; omega
    have hr := hid (dbl_yes hf)
    have hA' := Nat.lt_of_lt_of_le hA hm.pow_le
    have hS := sumN_lt hm A A
    have cA := card_le A
    have cS := card_le (sumN m A A)
    have cp := card_pos' hA' hA0
    have hg0 := gcdN_pos (x := card (sumN m A A)) cp
    have hgl := gcdN_le (x := card (sumN m A A)) cp
    have ww1 := hid (wrap_div (X := card (sumN m A A)) (o := gcdN (card (sumN m A A)) (card A)) (by omega))
    have ww2 := hid (wrap_div (X := card A) (o := gcdN (card (sumN m A A)) (card A)) (by omega))
    clear hA hA0 hf
    go_enter Try.func107, Try.ntmps107
    go_wp2_with (first | (go_at_call 64; refine (sIsSet_any _ _ _ _ _ _ hl (St.grp (by assumption))).mono ?_; rintro e wN ⟨rfl, hbN⟩; have hstN := St.step (by assumption) hbN; have hboxN := hstN.box; clear hbN) | (go_at_call 117; refine (l4Sum_any _ _ _ _ _ _ _ hm (by omega) (by omega) (St.grp (by assumption))).mono ?_; rintro e wN ⟨rfl, hbN⟩; have hstN := St.step (by assumption) hbN; have hboxN := hstN.box; clear hbN) | (go_at_call 116; refine (l3Bits_any _ _ (by omega)).mono ?_; rintro e wN ⟨rfl, rfl⟩))
    have hst2 : St w b off cap (cst m) wN := by assumption
    refine (l11Divisor_any _ _ _ (by omega) (by omega)).mono ?_; rintro e w1 ⟨rfl, rfl⟩
    go_wp2
    go_quiet (fail)
    go_wp2
    go_ret2
    exact ⟨ret_2 (by rw [hr.out.1]; first | exact ww1.out | simp [ratA]) (by rw [hr.out.2]; first | exact ww2.out | simp [ratB]), (hst2.drewN _).below⟩
  · have hf' : full l x x = false := by simpa using hf
    have hr := hid (dbl_no hf')
    clear hf
    rcases full_no1 hf' with h1 | ⟨h1, h2⟩
    all_goals
      go_enter Try.func107, Try.ntmps107
      go_wp2_with (first | (go_at_call 64; refine (sIsSet_any _ _ _ _ _ _ hl (St.grp (by assumption))).mono ?_; rintro e wN ⟨rfl, hbN⟩; have hstN := St.step (by assumption) hbN; have hboxN := hstN.box; clear hbN))
      go_ret2
      exact ⟨ret_2 (by rw [hr.out.1]) (by rw [hr.out.2]), St.below (by assumption)⟩
end Go.Proofs.Ytpflnmcecnbilaa
