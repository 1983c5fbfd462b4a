/-
  Contracts: the part of a set with the least ratio.
-/
import Derived.Test.YtpflnmcecnbilaaComb
import Derived.Test.YtpflnmcecnbilaaFull
import Derived.Test.YtpflnmcecnbilaaBits
import Derived.Test.YtpflnmcecnbilaaSum
import Derived.Test.YtpflnmcecnbilaaCmp
import Derived.Test.YtpflnmcecnbilaaRatio
import Derived.Test.YtpflnmcecnbilaaDefect
import Derived.Deep.RegionHeld3
namespace Go.Proofs.Ytpflnmcecnbilaa
open Go.RowKit

/-! ### which part is better: the lesser ratio, then more elements, then the lesser number -/
def bet (f g : Nat → Nat) (x y : Nat) : Prop := f x * g y < f y * g x ∨ (f x * g y = f y * g x ∧ (g y < g x ∨ (g x = g y ∧ x < y)))
theorem bet_total {f g : Nat → Nat} {x y : Nat} (hne : x ≠ y) (h : ¬ bet f g x y) : bet f g y x := by
  unfold bet at *
  generalize f x * g y = p at *
  generalize f y * g x = q at *
  omega
theorem cross_le {a b c p q r : Nat} (hq : 0 < q) (h1 : a * q ≤ b * p) (h2 : b * r ≤ c * q) : a * r ≤ c * p := by
  have e1 : a * q * r ≤ b * p * r := Nat.mul_le_mul_right r h1
  have e2 : b * r * p ≤ c * q * p := Nat.mul_le_mul_right p h2
  have e3 : b * p * r = b * r * p := Nat.mul_right_comm b p r
  have e4 : q * (a * r) ≤ q * (c * p) := by
    rw [show q * (a * r) = a * q * r from by rw [Nat.mul_comm q, Nat.mul_right_comm], show q * (c * p) = c * q * p from by rw [Nat.mul_comm q, Nat.mul_right_comm]]
    omega
  exact Nat.le_of_mul_le_mul_left e4 hq
theorem cross_lt {a b c p q r : Nat} (hp : 0 < p) (_hq : 0 < q) (hr : 0 < r) (h1 : a * q ≤ b * p) (h2 : b * r ≤ c * q) (h3 : a * q < b * p ∨ b * r < c * q) : a * r < c * p := by
  have e3 : b * p * r = b * r * p := Nat.mul_right_comm b p r
  have e4 : q * (a * r) < q * (c * p) := by
    rw [show q * (a * r) = a * q * r from by rw [Nat.mul_comm q, Nat.mul_right_comm], show q * (c * p) = c * q * p from by rw [Nat.mul_comm q, Nat.mul_right_comm]]
    rcases h3 with h | h
    · have f1 : a * q * r < b * p * r := Nat.mul_lt_mul_of_pos_right h hr
      have f2 : b * r * p ≤ c * q * p := Nat.mul_le_mul_right p h2
      omega
    · have f1 : a * q * r ≤ b * p * r := Nat.mul_le_mul_right r h1
      have f2 : b * r * p < c * q * p := Nat.mul_lt_mul_of_pos_right h hp
      omega
  exact Nat.lt_of_mul_lt_mul_left e4
theorem bet_trans {f g : Nat → Nat} {x y z : Nat} (hx : 0 < g x) (hy : 0 < g y) (hz : 0 < g z) (h1 : bet f g x y) (h2 : bet f g y z) : bet f g x z := by
  unfold bet at *
  rcases h1 with h1 | ⟨h1, h1'⟩
  · left; exact cross_lt hx hy hz (Nat.le_of_lt h1) (by rcases h2 with h2 | ⟨h2, _⟩ <;> omega) (.inl h1)
  · rcases h2 with h2 | ⟨h2, h2'⟩
    · left; exact cross_lt hx hy hz (Nat.le_of_eq h1) (Nat.le_of_lt h2) (.inr h2)
    · right
      have a1 := cross_le hy (Nat.le_of_eq h1) (Nat.le_of_eq h2)
      have a2 := cross_le hy (Nat.le_of_eq h2.symm) (Nat.le_of_eq h1.symm)
      refine ⟨Nat.le_antisymm a1 a2, ?_⟩
      omega
theorem bet_irr {f g : Nat → Nat} {x : Nat} (h : bet f g x x) : False := by unfold bet at h; omega
def part (A x : Nat) : Prop := x ≠ 0 ∧ sdiff x A = 0
theorem part_le {A x : Nat} (h : part A x) : x ≤ A := by have := part_and.1 h.2; rw [← this]; exact Nat.and_le_right
/-- the next part below, as the reference's loop finds it -/
theorem next_part : ∀ (a x z : Nat), x ≠ 0 → x &&& a = x → z &&& a = z → z < x → z ≤ (x - 1) &&& a := by
  intro a
  induction a using Nat.strongRecOn with
  | ind a ih =>
    intro x z hx0 hx hz hlt
    have ex : ∀ x y p q : Nat, p < 2 → q < 2 → (2 * x + p) &&& (2 * y + q) = 2 * (x &&& y) + (p &&& q) := fun x y p q hp hq => by
      have e1 : ((2 * x + p) &&& (2 * y + q)) / 2 = x &&& y := by rw [Nat.and_div_two]; congr 1 <;> omega
      have e2 : ((2 * x + p) &&& (2 * y + q)) % 2 = p &&& q := by
        rw [Nat.and_mod_two_pow (n := 1)]
        rcases (by omega : p = 0 ∨ p = 1) with rfl | rfl <;> rcases (by omega : q = 0 ∨ q = 1) with rfl | rfl <;> simp
      omega
    have ha0 : a ≠ 0 := fun e => by subst e; simp at hx; exact hx0 hx.symm
    have hxd : (x / 2) &&& (a / 2) = x / 2 := by rw [← Nat.and_div_two, hx]
    have hzd : (z / 2) &&& (a / 2) = z / 2 := by rw [← Nat.and_div_two, hz]
    have hzm : z % 2 ≤ a % 2 := by
      have this : (z &&& a) % 2 = z % 2 := by rw [hz]
      rw [Nat.and_mod_two_pow (n := 1)] at this
      have h1 : (z % 2 ^ 1) &&& (a % 2 ^ 1) ≤ a % 2 ^ 1 := Nat.and_le_right
      rw [this] at h1; simpa using h1
    have hxm : x % 2 ≤ a % 2 := by
      have this : (x &&& a) % 2 = x % 2 := by rw [hx]
      rw [Nat.and_mod_two_pow (n := 1)] at this
      have h1 : (x % 2 ^ 1) &&& (a % 2 ^ 1) ≤ a % 2 ^ 1 := Nat.and_le_right
      rw [this] at h1; simpa using h1
    by_cases ho : x % 2 = 1
    · have e := ex (x / 2) (a / 2) 0 (a % 2) (by omega) (by omega)
      rw [show 2 * (x / 2) + 0 = x - 1 from by omega, show 2 * (a / 2) + a % 2 = a from by omega, hxd] at e
      rw [e]; omega
    · have e := ex (x / 2 - 1) (a / 2) 1 (a % 2) (by omega) (by omega)
      rw [show 2 * (x / 2 - 1) + 1 = x - 1 from by omega, show 2 * (a / 2) + a % 2 = a from by omega] at e
      have h2 : 1 &&& (a % 2) = a % 2 := by rcases (by omega : a % 2 = 0 ∨ a % 2 = 1) with h | h <;> rw [h] <;> rfl
      rw [e, h2]
      have := ih (a / 2) (by omega) (x / 2) (z / 2) (by omega) hxd hzd (by omega)
      omega

/-! ### the least one -/
def ratF (m : List Nat) (B x : Nat) : Nat := card (sumN m x B)
def betB (m : List Nat) (B x y : Nat) : Bool := decide (ratF m B x * card y < ratF m B y * card x) || (decide (ratF m B x * card y = ratF m B y * card x) && (decide (card y < card x) || (decide (card x = card y) && decide (x < y))))
theorem betB_iff {m : List Nat} {B x y : Nat} : betB m B x y = true ↔ bet (ratF m B) card x y := by
  simp only [betB, bet, Bool.or_eq_true, Bool.and_eq_true, decide_eq_true_eq]
def partB (A x : Nat) : Bool := decide (x ≠ 0) && decide (sdiff x A = 0)
theorem partB_iff {A x : Nat} : partB A x = true ↔ part A x := by simp only [partB, part, Bool.and_eq_true, decide_eq_true_eq]
def leastB (m : List Nat) (A B y : Nat) : Bool := partB A y && (List.range (A + 1)).all fun z => !partB A z || decide (z = y) || betB m B y z
theorem leastB_iff {m : List Nat} {A B y : Nat} : leastB m A B y = true ↔ part A y ∧ ∀ z, part A z → z ≠ y → bet (ratF m B) card y z := by
  simp only [leastB, Bool.and_eq_true, List.all_eq_true, List.mem_range, Bool.or_eq_true, Bool.not_eq_true', decide_eq_true_eq, partB_iff, betB_iff]
  constructor
  · rintro ⟨h1, h2⟩
    refine ⟨h1, fun z hz hne => ?_⟩
    rcases h2 z (by have := part_le hz; omega) with (h | h) | h
    · rw [partB_iff.2 hz] at h; cases h
    · exact absurd h hne
    · exact h
  · rintro ⟨h1, h2⟩
    refine ⟨h1, fun z _ => ?_⟩
    cases hp : partB A z
    · exact .inl (.inl rfl)
    · by_cases e : z = y
      · exact .inl (.inr e)
      · exact .inr (h2 z (partB_iff.1 hp) e)
def leastN (m : List Nat) (A B : Nat) : Nat := ((List.range (A + 1)).find? (leastB m A B)).getD 0
theorem part_card {A x : Nat} (hA : A < 16777216) (h : part A x) : 0 < card x := ne_zero_card (Nat.lt_of_le_of_lt (part_le h) hA) h.1
theorem leastN_eq {m : List Nat} {A B y : Nat} (hA : A < 16777216) (h : part A y) (hl : ∀ z, part A z → z ≠ y → bet (ratF m B) card y z) : leastN m A B = y := by
  have hy : leastB m A B y = true := leastB_iff.2 ⟨h, hl⟩
  unfold leastN
  cases e : (List.range (A + 1)).find? (leastB m A B) with
  | none =>
    rw [List.find?_eq_none] at e
    exact absurd hy (by simpa using e y (List.mem_range.2 (by have := part_le h; omega)))
  | some x =>
    have h1 := leastB_iff.1 (List.find?_some e)
    by_cases exy : x = y
    · simp [exy]
    · exact (bet_irr (bet_trans (part_card hA h1.1) (part_card hA h) (part_card hA h1.1) (h1.2 y h (fun e => exy e.symm)) (hl x h1.1 exy))).elim
theorem leastN_spec {m : List Nat} {A B : Nat} (hA : A < 16777216) (h0 : A ≠ 0) : part A (leastN m A B) ∧ ∀ z, part A z → z ≠ leastN m A B → bet (ratF m B) card (leastN m A B) z := by
  -- among the parts up to a bound there is a best one
  have key : ∀ k, (∃ z, part A z ∧ z ≤ k) → ∃ y, part A y ∧ y ≤ k ∧ ∀ z, part A z → z ≤ k → z ≠ y → bet (ratF m B) card y z := by
    intro k
    induction k with
    | zero => rintro ⟨z, hz, h⟩; exact absurd (by omega : z = 0) hz.1
    | succ k ih =>
      intro _
      by_cases hk : ∃ z, part A z ∧ z ≤ k
      · obtain ⟨y, hy, hyk, hl⟩ := ih hk
        by_cases hp : part A (k + 1)
        · by_cases hb : bet (ratF m B) card (k + 1) y
          · refine ⟨k + 1, hp, Nat.le_refl _, fun z hz hzk hne => ?_⟩
            by_cases e : z = y
            · subst e; exact hb
            · exact bet_trans (part_card hA hp) (part_card hA hy) (part_card hA hz) hb (hl z hz (by omega) e)
          · refine ⟨y, hy, by omega, fun z hz hzk hne => ?_⟩
            by_cases e : z = k + 1
            · subst e; exact bet_total hne hb
            · exact hl z hz (by omega) hne
        · refine ⟨y, hy, by omega, fun z hz hzk hne => hl z hz ?_ hne⟩
          rcases (by omega : z ≤ k ∨ z = k + 1) with h | rfl
          · exact h
          · exact absurd hz hp
      · rename_i hex
        obtain ⟨z, hz, hzk⟩ := hex
        have e : z = k + 1 := by
          rcases (by omega : z ≤ k ∨ z = k + 1) with h | h
          · exact absurd ⟨z, hz, h⟩ hk
          · exact h
        subst e
        refine ⟨k + 1, hz, Nat.le_refl _, fun u hu huk hne => ?_⟩
        exact absurd ⟨u, hu, by omega⟩ hk
  obtain ⟨y, hy, _, hl⟩ := key A ⟨A, ⟨h0, part_and.2 (Nat.and_self A)⟩, Nat.le_refl _⟩
  have e := leastN_eq hA hy fun z hz hne => hl z hz (part_le hz) hne
  rw [e]; exact ⟨hy, fun z hz hne => hl z hz (part_le hz) hne⟩

/-! ### what the loops know -/
/-- the best of the parts below X -/
def bestTo (m : List Nat) (A B Y X : Nat) : Prop := (Y = 0 ∧ ∀ z, z < X → ¬ part A z) ∨ (part A Y ∧ Y < X ∧ ∀ z, z < X → part A z → z ≠ Y → bet (ratF m B) card Y z)
/-- the best of the parts above X -/
def bestFrom (m : List Nat) (A B Y X : Nat) : Prop := (Y = 0 ∧ X = A) ∨ (part A Y ∧ X < Y ∧ ∀ z, X < z → part A z → z ≠ Y → bet (ratF m B) card Y z)
section
variable {m : List Nat} {A B X Y : Nat}
theorem bestTo_skip (h : bestTo m A B Y X) (hX : ¬ part A X) : bestTo m A B Y (X + 1) := by
  have hz : ∀ z, z < X + 1 → part A z → z < X := fun z hz hp => by
    rcases (by omega : z < X ∨ z = X) with h | rfl
    · exact h
    · exact absurd hp hX
  rcases h with ⟨h1, h2⟩ | ⟨h1, h2, h3⟩
  · exact .inl ⟨h1, fun z hz' hp => h2 z (hz z hz' hp) hp⟩
  · exact .inr ⟨h1, by omega, fun z hz' hp hne => h3 z (hz z hz' hp) hp hne⟩
theorem bestTo_first (h : bestTo m A B 0 X) (hX : part A X) : bestTo m A B X (X + 1) := by
  rcases h with ⟨_, h2⟩ | ⟨h1, _⟩
  · refine .inr ⟨hX, by omega, fun z hz hp hne => ?_⟩
    exact absurd hp (h2 z (by omega))
  · exact absurd rfl h1.1
theorem bestTo_take (hA : A < 16777216) (h : bestTo m A B Y X) (hY : Y ≠ 0) (hX : part A X) (hb : bet (ratF m B) card X Y) : bestTo m A B X (X + 1) := by
  rcases h with ⟨h1, _⟩ | ⟨h1, _, h3⟩
  · exact absurd h1 hY
  · refine .inr ⟨hX, by omega, fun z hz hp hne => ?_⟩
    by_cases e : z = Y
    · subst e; exact hb
    · exact bet_trans (part_card hA hX) (part_card hA h1) (part_card hA hp) hb (h3 z (by omega) hp e)
theorem bestTo_keep (h : bestTo m A B Y X) (hY : Y ≠ 0) (hb : ¬ bet (ratF m B) card X Y) : bestTo m A B Y (X + 1) := by
  rcases h with ⟨h1, _⟩ | ⟨h1, h2, h3⟩
  · exact absurd h1 hY
  · refine .inr ⟨h1, by omega, fun z hz hp hne => ?_⟩
    by_cases e : z = X
    · subst e; exact bet_total hne hb
    · exact h3 z (by omega) hp hne
theorem bestTo_end (hA : A < 16777216) (h0 : A ≠ 0) (h : bestTo m A B Y (A + 1)) : leastN m A B = Y := by
  rcases h with ⟨_, h2⟩ | ⟨h1, _, h3⟩
  · exact absurd ⟨h0, part_and.2 (Nat.and_self A)⟩ (h2 A (by omega))
  · exact leastN_eq hA h1 fun z hz hne => h3 z (by have := part_le hz; omega) hz hne
theorem bestTo_part (h : bestTo m A B Y X) (hY : Y ≠ 0) : part A Y ∧ Y < X := by
  rcases h with ⟨h1, _⟩ | ⟨h1, h2, _⟩
  · exact absurd h1 hY
  · exact ⟨h1, h2⟩
theorem next_le (hX : part A X) {z : Nat} (hz : part A z) (h : (X - 1) &&& A < z) : z = X ∨ X < z := by
  rcases Nat.lt_trichotomy z X with h1 | h1 | h1
  · have := next_part A X z hX.1 (part_and.1 hX.2) (part_and.1 hz.2) h1; omega
  · exact .inl h1
  · exact .inr h1
theorem next_lt (hX : part A X) : (X - 1) &&& A < X := by
  have h1 : (X - 1) &&& A ≤ X - 1 := Nat.and_le_left
  have := hX.1; omega
theorem bestFrom_first (h : bestFrom m A B 0 X) (hX : part A X) : bestFrom m A B X ((X - 1) &&& A) := by
  rcases h with ⟨_, h2⟩ | ⟨h1, _⟩
  · refine .inr ⟨hX, next_lt hX, fun z hz hp hne => ?_⟩
    have h3 := part_le hp
    rcases next_le hX hp hz with h | h
    · exact absurd h hne
    · omega
  · exact absurd rfl h1.1
theorem bestFrom_take (hA : A < 16777216) (h : bestFrom m A B Y X) (hY : Y ≠ 0) (hX : part A X) (hb : bet (ratF m B) card X Y) : bestFrom m A B X ((X - 1) &&& A) := by
  rcases h with ⟨h1, _⟩ | ⟨h1, _, h3⟩
  · exact absurd h1 hY
  · refine .inr ⟨hX, next_lt hX, fun z hz hp hne => ?_⟩
    rcases next_le hX hp hz with h | h
    · exact absurd h hne
    · by_cases e : z = Y
      · subst e; exact hb
      · exact bet_trans (part_card hA hX) (part_card hA h1) (part_card hA hp) hb (h3 z h hp e)
theorem bestFrom_keep (h : bestFrom m A B Y X) (hY : Y ≠ 0) (hX : part A X) (hb : ¬ bet (ratF m B) card X Y) : bestFrom m A B Y ((X - 1) &&& A) := by
  rcases h with ⟨h1, _⟩ | ⟨h1, h2, h3⟩
  · exact absurd h1 hY
  · have hn := next_lt hX
    refine .inr ⟨h1, by omega, fun z hz hp hne => ?_⟩
    rcases next_le hX hp hz with h | h
    · subst h; exact bet_total hne hb
    · exact h3 z h hp hne
theorem bestFrom_end (hA : A < 16777216) (h0 : A ≠ 0) (h : bestFrom m A B Y 0) : leastN m A B = Y := by
  rcases h with ⟨_, h2⟩ | ⟨h1, _, h3⟩
  · exact absurd h2.symm h0
  · exact leastN_eq hA h1 fun z hz hne => h3 z (by have := hz.1; omega) hz hne
theorem bestFrom_part (h : bestFrom m A B Y X) (hY : Y ≠ 0) : part A Y ∧ X < Y := by
  rcases h with ⟨h1, _⟩ | ⟨h1, h2, _⟩
  · exact absurd h1 hY
  · exact ⟨h1, h2⟩
end
def lrOk (l : List Int) (a b : Int) : Bool := full l a b && decide (card a.toNat ≤ 10)
def lrF (l : List Int) (a b : Int) : Int := if lrOk l a b = true then (leastN (toN l) a.toNat b.toNat : Nat) else 0
theorem lrF_yes {m : List Nat} {A B : Nat} (h : lrOk (cst m) A B = true) : lrF (cst m) A B = (leastN m A B : Nat) := by
  unfold lrF; rw [if_pos h, toN_cst, Int.toNat_natCast, Int.toNat_natCast]
theorem lrF_no {l : List Int} {a b : Int} (h : lrOk l a b = false) : lrF l a b = 0 := by unfold lrF; rw [if_neg (by simp [h])]
theorem lrOk_yes {l : List Int} {a b : Int} (h : lrOk l a b = true) : full l a b = true ∧ card a.toNat ≤ 10 := by simpa [lrOk] using h
theorem lrOk_no {l : List Int} {a b : Int} (h : lrOk l a b = false) : full l a b = false ∨ (full l a b = true ∧ ¬ card a.toNat ≤ 10) := by
  unfold lrOk at h
  cases h1 : full l a b
  · exact .inl rfl
  · exact .inr ⟨rfl, by simpa [h1] using h⟩
theorem ret_ibL {a a' : Int} {b b' : Bool} (h1 : a = a') (h2 : b = b') : Ending.returned (.tuple #[.int .i64 a, .bool b]) = .returned (.tuple #[.int .i64 a', .bool b']) := by rw [h1, h2]
/-- the program's comparison -/
theorem cmp_cases {p q r s : Nat} (hp : p ≤ 24) (hq1 : 1 ≤ q) (hq : q ≤ 24) (hr : r ≤ 24) (hs1 : 1 ≤ s) (hs : s ≤ 24) :
    (p * s < r * q ∧ cmpF (p : Int) (q : Int) (r : Int) (s : Int) = -1) ∨ (p * s = r * q ∧ cmpF (p : Int) (q : Int) (r : Int) (s : Int) = 0) ∨ (r * q < p * s ∧ cmpF (p : Int) (q : Int) (r : Int) (s : Int) = 1) := by
  have h1 := mul24 hp hs
  have h2 := mul24 hr hq
  have e1 : wrap64 ((p : Int) * (s : Int)) = ((p * s : Nat) : Int) := by rw [IntWalk.wrap64_in _ (by omega)]; simp
  have e2 : wrap64 ((r : Int) * (q : Int)) = ((r * q : Nat) : Int) := by rw [IntWalk.wrap64_in _ (by omega)]; simp
  have hg : cmpGood (p : Int) (q : Int) (r : Int) (s : Int) := by unfold cmpGood; omega
  rcases Nat.lt_trichotomy (p * s) (r * q) with h | h | h
  · exact .inl ⟨h, cmpF_lt hg (by rw [e1, e2]; omega)⟩
  · exact .inr (.inl ⟨h, cmpF_eq hg (by rw [e1, e2]; omega) (by rw [e1, e2]; omega)⟩)
  · exact .inr (.inr ⟨h, cmpF_gt hg (by rw [e1, e2]; omega) (by rw [e1, e2]; omega)⟩)
set_option maxHeartbeats 2000000 in
theorem leastRatio_any (b off cap : Nat) (l : List Int) (x y : Int) (w : World) (hl : l.length ≤ 1099511627776) (hg : GrpAt w b off l) :
    Calls Try.prog 12 #[.agg #[.slice (some ⟨b, off, none⟩) l.length cap], .int .i64 x, .int .i64 y] w fun e w' => e = .returned (.tuple #[.int .i64 (lrF l x y), .bool (lrOk l x y)]) ∧ Below w.heap.size w w' := by
  have hst := St.init cap 26 hg
  clear hg
  by_cases h : lrOk l x y = true
  · have h0 := lrOk_yes h
    obtain ⟨hf, h10⟩ := h0
    have hf0 := full_iff.1 hf
    obtain ⟨m, A, B, hm, rfl, rfl, rfl, hA, hB, hA0, _⟩ := hf0
    rw [Int.toNat_natCast] at h10
    have hr := hid (lrF_yes h)
    have hk := hid h
    have hA' := Nat.lt_of_lt_of_le hA hm.pow_le
    have hB' := Nat.lt_of_lt_of_le hB hm.pow_le
    have h0' := hid hA0
    clear hA hB h hA0
    go_enter Try.func12, Try.ntmps12
    go_wp2_with (first | (go_at_call 113; refine (areFull_any _ _ _ _ _ _ _ hl (St.grp (by assumption))).mono ?_; rintro e wN ⟨rfl, hbN⟩; have hstN := St.step (by assumption) hbN; have hboxN := hstN.box; clear hbN) | (go_at_call 114; refine (bits_any _ _ (by omega)).mono ?_; rintro e wN ⟨rfl, rfl⟩))
    have hst1 : St w b off cap (cst m) wN := by assumption
    clear hst hboxN
    go_loopw [8, 9] (fun v u wr => ∃ X Y : Nat, u = .int .i64 X ∧ v = .int .i64 Y ∧ 1 ≤ X ∧ X ≤ A + 1 ∧ Y ≤ A ∧ Hid (bestTo m A B Y X) ∧ St w b off cap (cst m) wr) (fun _ u _ => A + 1 - (intOf u).toNat)
    case atStart => exact ⟨1, 0, rfl, rfl, by omega, by omega, by omega, .inl ⟨rfl, fun z hz hp => hp.1 (by omega)⟩, hst1⟩
    case round =>
      clear hst1
      rename_i wr
      obtain ⟨X, Y, rfl, rfl, hX1, hXA, hYA, hbest, hstr⟩ := hrel
      have hbox := hstr.box
      by_cases hle : X ≤ A
      · have hX24 : X < 16777216 := by omega
        have hbit := bits_andNot_nat X A (by omega) (by omega)
        by_cases hp : sdiff X A = 0
        · have hpart : part A X := ⟨by omega, hp⟩
          have hpb : (((sdiff X A : Nat) : Int) != 0) = false := by rw [hp]; rfl
          by_cases hY0 : Y = 0
          · subst hY0
            have hb' := hid (bestTo_first hbest.out hpart)
            clear hp hpart
            go_wp2
            go_roundw
            case rel => exact ⟨X + 1, X, by go_num, rfl, by omega, by omega, hle, hb', hstr⟩
            case measure => simp [intOf]; omega
          · have hY0b : ((Y : Int) == 0) = false := by rw [beq_eq_false_iff_ne]; omega
            have hYp := (bestTo_part hbest.out hY0).1
            have hY24 : Y < 16777216 := by omega
            have c1 := card_le X
            have c2 := card_le Y
            have c3 := part_card hA' hpart
            have c4 := part_card hA' hYp
            have c5 := card_le (sumN m X B)
            have c6 := card_le (sumN m Y B)
            have c7 := sumN_lt hm X B
            have c8 := sumN_lt hm Y B
            have hXY := hid (bestTo_part hbest.out hY0).2
            have hst0 := hstr.drew
            have hbd : Hid (∀ {q : Prop}, (bet (ratF m B) card X Y → q) → (¬ bet (ratF m B) card X Y → q) → q) := fun h1 h2 => (Classical.em _).elim h1 h2
            have htk : bet (ratF m B) card X Y → Hid (bestTo m A B X (X + 1)) := fun hb => bestTo_take hA' hbest.out hY0 hpart hb
            have hkp : ¬ bet (ratF m B) card X Y → Hid (bestTo m A B Y (X + 1)) := fun hb => bestTo_keep hbest.out hY0 hb
            have hdef : bet (ratF m B) card X Y ↔ (card (sumN m X B) * card Y < card (sumN m Y B) * card X ∨ (card (sumN m X B) * card Y = card (sumN m Y B) * card X ∧ (card Y < card X ∨ (card X = card Y ∧ X < Y)))) := Iff.rfl
            have htk' := hid htk
            have hkp' := hid hkp
            have hdef' := hid hdef
            clear hp hpart hYp htk hkp hdef hbd hstr hY0
            rcases cmp_cases c5 c3 c1 c6 c4 c2 with ⟨hc, hcm⟩ | ⟨hc, hcm⟩ | ⟨hc, hcm⟩
            · have hb' := htk'.out (hdef'.out.2 (.inl hc))
              clear hc
              go_wp2_with (first | (go_at_call 114; refine (bits_any _ _ (by omega)).mono ?_; rintro e wN ⟨rfl, rfl⟩))
              go_region_held3 (fun w' => w'.cell? ⟨w.heap.size, 0, none⟩ = some (.slice (some ⟨b, off, none⟩) (cst m).length cap) ∧ St w b off cap (cst m) w') (first | exact ⟨hst0.box, hst0⟩ | exact St.keep (by assumption) hb1 | assumption)
                (first | (go_at_call 115; refine (sum_any _ _ _ _ _ _ _ hm (by omega) (by omega) (St.grpOf (by assumption))).mono ?_; rintro e w1 ⟨rfl, hb1⟩) | (go_at_call 114; refine (bits_any _ _ (by omega)).mono ?_; rintro e w1 ⟨rfl, rfl⟩) | (go_at_call 18; refine (compareRatios_any _ _ _ _ _).mono ?_; rintro e w1 ⟨rfl, rfl⟩; rw [hcm]))
              have hst2 : St w b off cap (cst m) w1 := And.right (by assumption)
              go_wp2
              go_roundw
              case rel => exact ⟨X + 1, X, by go_num, rfl, by omega, by omega, hle, hb', hst2⟩
              case measure => simp [intOf]; omega
            · by_cases hgt : card Y < card X
              · have hb' := htk'.out (hdef'.out.2 (.inr ⟨hc, .inl hgt⟩))
                clear hc
                go_wp2_with (first | (go_at_call 114; refine (bits_any _ _ (by omega)).mono ?_; rintro e wN ⟨rfl, rfl⟩))
                go_region_held3 (fun w' => w'.cell? ⟨w.heap.size, 0, none⟩ = some (.slice (some ⟨b, off, none⟩) (cst m).length cap) ∧ St w b off cap (cst m) w') (first | exact ⟨hst0.box, hst0⟩ | exact St.keep (by assumption) hb1 | assumption)
                  (first | (go_at_call 115; refine (sum_any _ _ _ _ _ _ _ hm (by omega) (by omega) (St.grpOf (by assumption))).mono ?_; rintro e w1 ⟨rfl, hb1⟩) | (go_at_call 114; refine (bits_any _ _ (by omega)).mono ?_; rintro e w1 ⟨rfl, rfl⟩) | (go_at_call 18; refine (compareRatios_any _ _ _ _ _).mono ?_; rintro e w1 ⟨rfl, rfl⟩; rw [hcm]))
                have hst2 : St w b off cap (cst m) w1 := And.right (by assumption)
                go_wp2
                go_roundw
                case rel => exact ⟨X + 1, X, by go_num, rfl, by omega, by omega, hle, hb', hst2⟩
                case measure => simp [intOf]; omega
              · have hb' := hkp'.out (fun hb => by have h1 := hdef'.out.1 hb; have h2 := hXY.out; omega)
                clear hc
                go_wp2_with (first | (go_at_call 114; refine (bits_any _ _ (by omega)).mono ?_; rintro e wN ⟨rfl, rfl⟩))
                go_region_held3 (fun w' => w'.cell? ⟨w.heap.size, 0, none⟩ = some (.slice (some ⟨b, off, none⟩) (cst m).length cap) ∧ St w b off cap (cst m) w') (first | exact ⟨hst0.box, hst0⟩ | exact St.keep (by assumption) hb1 | assumption)
                  (first | (go_at_call 115; refine (sum_any _ _ _ _ _ _ _ hm (by omega) (by omega) (St.grpOf (by assumption))).mono ?_; rintro e w1 ⟨rfl, hb1⟩) | (go_at_call 114; refine (bits_any _ _ (by omega)).mono ?_; rintro e w1 ⟨rfl, rfl⟩) | (go_at_call 18; refine (compareRatios_any _ _ _ _ _).mono ?_; rintro e w1 ⟨rfl, rfl⟩; rw [hcm]))
                have hst2 : St w b off cap (cst m) w1 := And.right (by assumption)
                go_wp2
                go_roundw
                case rel => exact ⟨X + 1, Y, by go_num, rfl, by omega, by omega, hYA, hb', hst2⟩
                case measure => simp [intOf]; omega
            · have hb' := hkp'.out (fun hb => by have h1 := hdef'.out.1 hb; omega)
              clear hc
              go_wp2_with (first | (go_at_call 114; refine (bits_any _ _ (by omega)).mono ?_; rintro e wN ⟨rfl, rfl⟩))
              go_region_held3 (fun w' => w'.cell? ⟨w.heap.size, 0, none⟩ = some (.slice (some ⟨b, off, none⟩) (cst m).length cap) ∧ St w b off cap (cst m) w') (first | exact ⟨hst0.box, hst0⟩ | exact St.keep (by assumption) hb1 | assumption)
                (first | (go_at_call 115; refine (sum_any _ _ _ _ _ _ _ hm (by omega) (by omega) (St.grpOf (by assumption))).mono ?_; rintro e w1 ⟨rfl, hb1⟩) | (go_at_call 114; refine (bits_any _ _ (by omega)).mono ?_; rintro e w1 ⟨rfl, rfl⟩) | (go_at_call 18; refine (compareRatios_any _ _ _ _ _).mono ?_; rintro e w1 ⟨rfl, rfl⟩; rw [hcm]))
              have hst2 : St w b off cap (cst m) w1 := And.right (by assumption)
              go_wp2
              go_roundw
              case rel => exact ⟨X + 1, Y, by go_num, rfl, by omega, by omega, hYA, hb', hst2⟩
              case measure => simp [intOf]; omega
        · have hpb : (((sdiff X A : Nat) : Int) != 0) = true := by rw [bne_iff_ne]; omega
          have hb' := hid (bestTo_skip hbest.out (fun h => hp h.2))
          clear hp
          go_wp2
          go_roundw
          case rel => exact ⟨X + 1, Y, by go_num, rfl, by omega, by omega, hYA, hb', hstr⟩
          case measure => simp [intOf]; omega
      · have he : Hid (leastN m A B = Y) := bestTo_end hA' h0'.out (by have h1 := hbest.out; rwa [show X = A + 1 from by omega] at h1)
        go_wp2
        go_ret2
        exact ⟨ret_ibL (by rw [hr.out, he.out]) hk.out.symm, hstr.below⟩
  · have hn : lrOk l x y = false := by simpa using h
    have hr := hid (lrF_no hn)
    have hk := hid hn
    rcases lrOk_no hn with h1 | ⟨h1, h2⟩
    · clear h hn
      go_enter Try.func12, Try.ntmps12
      go_wp2_with (first | (go_at_call 113; refine (areFull_any _ _ _ _ _ _ _ hl (St.grp (by assumption))).mono ?_; rintro e wN ⟨rfl, hbN⟩; have hstN := St.step (by assumption) hbN; have hboxN := hstN.box; clear hbN))
      go_ret2
      exact ⟨ret_ibL hr.out.symm hk.out.symm, St.below (by assumption)⟩
    · have hf0 := full_iff.1 h1
      obtain ⟨m, A, B, hm, rfl, rfl, rfl, hA, hB, hA0, _⟩ := hf0
      rw [Int.toNat_natCast] at h2
      have hA' := Nat.lt_of_lt_of_le hA hm.pow_le
      clear h hn hA hB
      go_enter Try.func12, Try.ntmps12
      go_wp2_with (first | (go_at_call 113; refine (areFull_any _ _ _ _ _ _ _ hl (St.grp (by assumption))).mono ?_; rintro e wN ⟨rfl, hbN⟩; have hstN := St.step (by assumption) hbN; have hboxN := hstN.box; clear hbN) | (go_at_call 114; refine (bits_any _ _ (by omega)).mono ?_; rintro e wN ⟨rfl, rfl⟩))
      go_ret2
      exact ⟨ret_ibL hr.out.symm hk.out.symm, St.below (by assumption)⟩
end Go.Proofs.Ytpflnmcecnbilaa
