/-
  Contracts: the subgroup that a set generates.
-/
import Derived.Test.YtpflnmcecnbilaaComb
import Derived.Test.YtpflnmcecnbilaaStab
import Derived.Test.YtpflnmcecnbilaaCover
import Derived.Deep.RegionHeld3
namespace Go.Proofs.Ytpflnmcecnbilaa
open Go.RowKit

/-! ### the closure -/
def clS (m : List Nat) (A X : Nat) : Nat := X ||| sumN m X A
def clN (m : List Nat) (A : Nat) : Nat → Nat | 0 => 1 | k + 1 => clS m A (clN m A k)
def genN (m : List Nat) (A : Nat) : Nat := clN m A 24
def genS (m : List Nat) (A X : Nat) : Nat := (X ||| sumN m X A) ||| sumN m X (oppN m A)
section
variable {m : List Nat} (hm : Ok m)
include hm
theorem one_lt : 1 < 2 ^ prodN m := by
  have h1 := hm.pos; have h2 : 2 ^ 1 ≤ 2 ^ prodN m := Nat.pow_le_pow_right (by omega) h1; omega
omit hm in
theorem zero_mem_one : 0 ∈ mem 1 := by decide
theorem clS_lt {A X : Nat} (hX : X < 2 ^ prodN m) : clS m A X < 2 ^ prodN m := Nat.or_lt_two_pow hX (hm.sum_lt X A)
theorem clN_lt (A : Nat) : ∀ k, clN m A k < 2 ^ prodN m
  | 0 => one_lt hm
  | k + 1 => clS_lt hm (clN_lt A k)
omit hm in
theorem clN_sub (m : List Nat) (A k : Nat) : ∀ x ∈ mem (clN m A k), x ∈ mem (clN m A (k + 1)) := fun _ hx => mem_or.2 (.inl hx)
omit hm in
theorem clN_zero (m : List Nat) (A : Nat) : ∀ k, 0 ∈ mem (clN m A k)
  | 0 => zero_mem_one
  | k + 1 => clN_sub m A k 0 (clN_zero m A k)
theorem genN_fix (A : Nat) : clS m A (genN m A) = genN m A := by
  have key : ∀ k, (∃ j, j < k ∧ clN m A (j + 1) = clN m A j) ∨ k + 1 ≤ card (clN m A k) := by
    intro k
    induction k with
    | zero => right; exact card_one_le (clN_zero m A 0)
    | succ k ih =>
      rcases ih with ⟨j, hj, e⟩ | ih
      · exact .inl ⟨j, by omega, e⟩
      · by_cases e : clN m A (k + 1) = clN m A k
        · exact .inl ⟨k, by omega, e⟩
        · right
          have h2 : card (clN m A k) < card (clN m A (k + 1)) := by
            rcases Nat.lt_or_ge (card (clN m A k)) (card (clN m A (k + 1))) with h | h
            · exact h
            · exact absurd (eq_of_sub (hm.lt24 (clN_lt hm A k)) (hm.lt24 (clN_lt hm A (k + 1))) (clN_sub m A k) h).symm e
          omega
  have hst : ∀ j, clN m A (j + 1) = clN m A j → ∀ d, clN m A (j + d) = clN m A j := fun j e d => by
    induction d with
    | zero => rfl
    | succ d ih => show clS m A (clN m A (j + d)) = _; rw [ih]; exact e
  rcases key 24 with ⟨j, hj, e⟩ | h
  · have h1 := hst j e (24 - j)
    have h2 := hst j e (25 - j)
    rw [show j + (24 - j) = 24 from by omega] at h1
    rw [show j + (25 - j) = 24 + 1 from by omega] at h2
    show clN m A (24 + 1) = clN m A 24
    rw [h1, h2]
  · have := card_le (clN m A 24); omega
theorem genN_lt (A : Nat) : genN m A < 2 ^ prodN m := clN_lt hm A 24
omit hm in
theorem genN_zero (m : List Nat) (A : Nat) : 0 ∈ mem (genN m A) := clN_zero m A 24
omit hm in
theorem clN_sub0 (m : List Nat) (A : Nat) : ∀ z ∈ mem 1, z ∈ mem (genN m A) := fun z hz => by
  have : z = 0 := by
    have h1 := mem_testBit hz
    have h2 : (1 : Nat).testBit z = decide (0 = z) := testBit_pw 0 z
    rw [h2] at h1; simp at h1; exact h1.symm
  rw [this]; exact genN_zero m A
theorem genN_add {A x a : Nat} (hx : x ∈ mem (genN m A)) (ha : a ∈ mem A) : addN m x a ∈ mem (genN m A) := by
  rw [← genN_fix hm]; exact mem_or.2 (.inr ((mem_sumN hm).2 ⟨x, hx, a, ha, rfl⟩))
theorem genN_min {A X : Nat} (h0 : 0 ∈ mem X) (hc : ∀ x ∈ mem X, ∀ a ∈ mem A, addN m x a ∈ mem X) : ∀ z ∈ mem (genN m A), z ∈ mem X := by
  have key : ∀ k, ∀ z ∈ mem (clN m A k), z ∈ mem X := by
    intro k
    induction k with
    | zero =>
      intro z hz
      have : z = 0 := by
        have h1 := mem_testBit hz
        have h2 : (clN m A 0).testBit z = decide (0 = z) := testBit_pw 0 z
        rw [h2] at h1; simp at h1; exact h1.symm
      rw [this]; exact h0
    | succ k ih =>
      intro z hz
      rcases mem_or.1 hz with h | h
      · exact ih z h
      · obtain ⟨x, hx, a, ha, rfl⟩ := (mem_sumN hm).1 h
        exact hc x (ih x hx) a ha
  exact key 24
theorem genN_sub {A x a : Nat} (hx : x ∈ mem (genN m A)) (ha : a ∈ mem A) : addN m x (negN m a) ∈ mem (genN m A) := by
  have hs : shiftN m (genN m A) a = genN m A := by
    refine eq_of_sub (hm.lt24 (hm.shift_lt _ _)) (hm.lt24 (genN_lt hm A)) (fun z hz => ?_) (by rw [card_shift hm (genN_lt hm A)]; exact Nat.le_refl _)
    obtain ⟨y, hy, rfl⟩ := (mem_shiftN hm).1 hz
    rw [addN_comm]; exact genN_add hm hy ha
  rw [← hs] at hx
  obtain ⟨y, hy, rfl⟩ := (mem_shiftN hm).1 hx
  rw [addN_comm m a y, hm.add_sub a (hm.mlt (genN_lt hm A) hy)]; exact hy
theorem gen_eq {A X : Nat} (hX : X < 2 ^ prodN m) (h0 : 0 ∈ mem X) (hsub : ∀ z ∈ mem X, z ∈ mem (genN m A)) (hc : ∀ x ∈ mem X, ∀ a ∈ mem A, addN m x a ∈ mem X) : X = genN m A :=
  eq_of_sub (hm.lt24 hX) (hm.lt24 (genN_lt hm A)) hsub (card_mono (genN_min hm h0 hc))
/-- a step of either loop stays within the closure; where it changes nothing, the closure is reached -/
theorem genS_lt {A X : Nat} (hX : X < 2 ^ prodN m) : genS m A X < 2 ^ prodN m := Nat.or_lt_two_pow (Nat.or_lt_two_pow hX (hm.sum_lt _ _)) (hm.sum_lt _ _)
theorem genS_sub {A X : Nat} (hsub : ∀ z ∈ mem X, z ∈ mem (genN m A)) : ∀ z ∈ mem (genS m A X), z ∈ mem (genN m A) := fun z hz => by
  rcases mem_or.1 hz with h | h
  · rcases mem_or.1 h with h | h
    · exact hsub z h
    · obtain ⟨x, hx, a, ha, rfl⟩ := (mem_sumN hm).1 h
      exact genN_add hm (hsub x hx) ha
  · obtain ⟨x, hx, y, hy, rfl⟩ := (mem_sumN hm).1 h
    obtain ⟨a, ha, rfl⟩ := (mem_oppN hm).1 hy
    exact genN_sub hm (hsub x hx) ha
theorem clS_sub {A X : Nat} (hsub : ∀ z ∈ mem X, z ∈ mem (genN m A)) : ∀ z ∈ mem (clS m A X), z ∈ mem (genN m A) := fun z hz => by
  rcases mem_or.1 hz with h | h
  · exact hsub z h
  · obtain ⟨x, hx, a, ha, rfl⟩ := (mem_sumN hm).1 h
    exact genN_add hm (hsub x hx) ha
theorem genS_end {A X : Nat} (hX : X < 2 ^ prodN m) (h0 : 0 ∈ mem X) (hsub : ∀ z ∈ mem X, z ∈ mem (genN m A)) (h : genS m A X = X) : X = genN m A :=
  gen_eq hm hX h0 hsub fun x hx a ha => by rw [← h]; exact mem_or.2 (.inl (mem_or.2 (.inr ((mem_sumN hm).2 ⟨x, hx, a, ha, rfl⟩))))
theorem clS_end {A X : Nat} (hX : X < 2 ^ prodN m) (h0 : 0 ∈ mem X) (hsub : ∀ z ∈ mem X, z ∈ mem (genN m A)) (h : clS m A X = X) : X = genN m A :=
  gen_eq hm hX h0 hsub fun x hx a ha => by rw [← h]; exact mem_or.2 (.inr ((mem_sumN hm).2 ⟨x, hx, a, ha, rfl⟩))
theorem genS_more {A X : Nat} (hX : X < 2 ^ prodN m) (h : ¬ genS m A X = X) : card X < card (genS m A X) := by
  have hs : ∀ x ∈ mem X, x ∈ mem (genS m A X) := fun x hx => mem_or.2 (.inl (mem_or.2 (.inl hx)))
  rcases Nat.lt_or_ge (card X) (card (genS m A X)) with h1 | h1
  · exact h1
  · exact absurd (eq_of_sub (hm.lt24 hX) (hm.lt24 (genS_lt hm hX)) hs h1).symm h
theorem clS_more {A X : Nat} (hX : X < 2 ^ prodN m) (h : ¬ clS m A X = X) : card X < card (clS m A X) := by
  have hs : ∀ x ∈ mem X, x ∈ mem (clS m A X) := fun x hx => mem_or.2 (.inl hx)
  rcases Nat.lt_or_ge (card X) (card (clS m A X)) with h1 | h1
  · exact h1
  · exact absurd (eq_of_sub (hm.lt24 hX) (hm.lt24 (clS_lt hm hX)) hs h1).symm h
end
set_option maxHeartbeats 1000000 in
theorem l5Closure_any (b off cap : Nat) (m : List Nat) (A : Nat) (w : World) (hm : Ok m) (hA : A < 16777216) (hg : GrpAt w b off (cst m)) :
    Calls Try.prog 174 #[.agg #[.slice (some ⟨b, off, none⟩) (cst m).length cap], .int .i64 A] w fun e w' => e = .returned (.int .i64 (genN m A : Nat)) ∧ Below w.heap.size w w' := by
  have hst := St.init cap 26 hg
  have h1 := one_lt hm
  have hp := hid hm.pow_le
  have hs0 := sumN_lt hm 1 A
  have ho0 : bits BinOp.or IntKind.i64 1 ((sumN m 1 A : Nat) : Int) = ((clS m A 1 : Nat) : Int) := bits_or_nat 1 (sumN m 1 A) (by omega) (by omega)
  clear hg
  go_enter Try.func174, Try.ntmps174
  go_wp2_with fail
  refine (l4Sum_any _ _ _ _ 1 _ _ hm (by omega) hA hst.grp).mono ?_; rintro e w1 ⟨rfl, hb1⟩; have hst1 := hst.step hb1
  clear hst hb1
  go_wp2
  go_loopw [5, 6] (fun u v wr => ∃ X : Nat, u = .int .i64 X ∧ v = .int .i64 (clS m A X : Nat) ∧ Hid (X < 2 ^ prodN m) ∧ Hid (0 ∈ mem X) ∧ Hid (∀ z ∈ mem X, z ∈ mem (genN m A)) ∧ St w b off cap (cst m) wr) (fun u _ _ => 25 - card (intOf u).toNat)
  case atStart => exact ⟨1, rfl, by first | rfl | (rw [ho0]), h1, zero_mem_one, fun z hz => clN_sub0 m A z hz, hst1⟩
  case round =>
    clear hst1 h1 ho0 hs0
    rename_i wr
    obtain ⟨X, rfl, rfl, hX, h0, hsub, hstr⟩ := hrel
    have hbox := hstr.box
    have hge := hid (clS_lt hm (A := A) hX.out)
    have hge2 := hid (clS_sub hm hsub.out)
    have hz2 : Hid (0 ∈ mem (clS m A X)) := mem_or.2 (.inl h0.out)
    have hcm := hid (card_le (clS m A X))
    by_cases he : clS m A X = X
    · have hfin := hid (clS_end hm hX.out h0.out hsub.out he)
      have hb : (((clS m A X : Nat) : Int) != (X : Int)) = false := by rw [he]; simp
      clear he hge hge2 hz2 hcm
      generalize clS m A X = Y at *
      go_wp2
      go_ret
      exact ⟨ret_i (by rw [hfin.out]), hstr.below⟩
    · have hmore := hid (clS_more hm hX.out he)
      have hb : (((clS m A X : Nat) : Int) != (X : Int)) = true := by rw [bne_iff_ne]; omega
      have hY' : clS m A X < 16777216 := Nat.lt_of_lt_of_le hge.out hp.out
      clear he
      generalize clS m A X = Y at *
      have hs1 := sumN_lt hm Y A
      have ho1 : bits BinOp.or IntKind.i64 (Y : Int) ((sumN m Y A : Nat) : Int) = ((clS m A Y : Nat) : Int) := bits_or_nat Y (sumN m Y A) (by omega) (by omega)
      go_wp2_with fail
      refine (l4Sum_any _ _ _ _ _ _ _ hm hY' hA hstr.grp).mono ?_; rintro e w2 ⟨rfl, hb2⟩; have hst2 := hstr.step hb2
      clear hstr hb2 hbox
      go_wp2
      go_roundw
      case rel => exact ⟨Y, rfl, rfl, hge, hz2, hge2, hst2⟩
      case measure => have := hmore.out; have := hcm.out; simp [intOf]; omega
def subB (l : List Int) (h : Int) : Bool := isSetB l h && decide (((genN (toN l) h.toNat : Nat) : Int) = h)
theorem subB_no {l : List Int} {h : Int} (e : isSetB l h = false) : subB l h = false := by unfold subB; rw [e]; rfl
theorem subB_yes {m : List Nat} {H : Nat} (e : isSetB (cst m) H = true) : subB (cst m) H = (((genN m H : Nat) : Int) == (H : Int)) := by
  unfold subB; rw [e, toN_cst, Int.toNat_natCast, Bool.true_and, Bool.eq_iff_iff]; simp
theorem sIsSubgroup_any (b off cap : Nat) (l : List Int) (h : Int) (w : World) (hl : l.length ≤ 1099511627776) (hg : GrpAt w b off l) :
    Calls Try.prog 194 #[.agg #[.slice (some ⟨b, off, none⟩) l.length cap], .int .i64 h] w fun e w' => e = .returned (.bool (subB l h)) ∧ Below w.heap.size w w' := by
  have hst := St.init cap 26 hg
  by_cases hs : isSetB l h = true
  · have h3 := isSetB_iff.1 hs
    obtain ⟨m, H, hm, rfl, rfl, hH⟩ := h3
    have hr := hid (subB_yes hs)
    have hH' := Nat.lt_of_lt_of_le hH hm.pow_le
    clear hH
    go_enter Try.func194, Try.ntmps194
    go_wp2_with (first | (go_at_call 64; refine (sIsSet_any _ _ _ _ _ _ hl (St.grp (by assumption))).mono ?_; rintro e wN ⟨rfl, hbN⟩; have hstN := St.step (by assumption) hbN; have hboxN := hstN.box; clear hbN) | (go_at_call 174; refine (l5Closure_any _ _ _ _ _ _ hm (by omega) (St.grp (by assumption))).mono ?_; rintro e wN ⟨rfl, hbN⟩; have hstN := St.step (by assumption) hbN; have hboxN := hstN.box; clear hbN))
    go_ret
    exact ⟨ret_b (by rw [hr.out]), St.below (by assumption)⟩
  · have hs' : isSetB l h = false := by simpa using hs
    have hr := hid (subB_no hs')
    clear hs
    go_enter Try.func194, Try.ntmps194
    go_wp2_with (first | (go_at_call 64; refine (sIsSet_any _ _ _ _ _ _ hl (St.grp (by assumption))).mono ?_; rintro e wN ⟨rfl, hbN⟩; have hstN := St.step (by assumption) hbN; have hboxN := hstN.box; clear hbN))
    go_ret
    exact ⟨ret_b (by rw [hr.out]), St.below (by assumption)⟩
end Go.Proofs.Ytpflnmcecnbilaa
