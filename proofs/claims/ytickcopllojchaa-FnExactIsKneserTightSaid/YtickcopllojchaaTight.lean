/-
  Contracts: tight pairs; the gaps of sums and differences; coverings.
-/
import Derived.Test.YtickcopllojchaaKneser
import Derived.Test.YtickcopllojchaaDefect
namespace Go.Proofs.Ytickcopllojchaa
open Go.RowKit

def tightF (l : List Int) (a b : Int) : Bool := full l a b && decide (((card (sumN (toN l) a.toNat b.toNat) : Nat) : Int) = kneserF l a b)
theorem tightF_yes {m : List Nat} {A B : Nat} (h : full (cst m) A B = true) : tightF (cst m) A B = (((card (sumN m A B) : Nat) : Int) == kneserF (cst m) A B) := by
  unfold tightF; rw [h, toN_cst, Int.toNat_natCast, Int.toNat_natCast, Bool.true_and, Bool.eq_iff_iff]; simp
theorem tightF_no {l : List Int} {a b : Int} (h : full l a b = false) : tightF l a b = false := by unfold tightF; rw [h]; rfl
set_option maxHeartbeats 400000 in
theorem sIsKneserTight_any (b off cap : Nat) (l : List Int) (x y : Int) (w : World) (hl : l.length ≤ 1099511627776) (hg : GrpAt w b off l) :
    Calls Try.prog 35 #[.agg #[.slice (some ⟨b, off, none⟩) l.length cap], .int .i64 x, .int .i64 y] w fun e w' => e = .returned (.bool (tightF l x y)) ∧ Below w.heap.size w w' := by
  have hst := St.init cap 32 hg
  by_cases hf : full l x y = true
  · have hf0 := full_iff.1 hf
    obtain ⟨m, A, B, hm, rfl, rfl, rfl, hA, hB, hA0, _⟩ := hf0
    have hr := hid (tightF_yes hf)
    have hge : 0 ≤ kneserF (cst m) A B := by rw [kneserF_yes hf]; exact knB_ge hm hA hA0
    have hA' := Nat.lt_of_lt_of_le hA hm.pow_le
    have hB' := Nat.lt_of_lt_of_le hB hm.pow_le
    have hS := sumN_lt hm A B
    clear hA hB
    go_enter Try.func35, Try.ntmps35
    go_wp2_with (first | (go_at_call 73; refine (sKneserBound_any _ _ _ _ _ _ _ hl (St.grp (by assumption))).mono ?_; rintro e wN ⟨rfl, hbN⟩; have hstN := St.step (by assumption) hbN; have hboxN := hstN.box; clear hbN) | (go_at_call 74; refine (l4Sum_any _ _ _ _ _ _ _ hm (by omega) (by omega) (St.grp (by assumption))).mono ?_; rintro e wN ⟨rfl, hbN⟩; have hstN := St.step (by assumption) hbN; have hboxN := hstN.box; clear hbN) | (go_at_call 68; refine (l3Bits_any _ _ (by omega)).mono ?_; rintro e wN ⟨rfl, rfl⟩))
    go_ret
    exact ⟨ret_b (by rw [hr.out]), St.below (by assumption)⟩
  · have hf' : full l x y = false := by simpa using hf
    have hr := hid (tightF_no hf')
    have hlt : kneserF l x y < 0 := by rw [kneserF_no hf']; omega
    clear hf
    go_enter Try.func35, Try.ntmps35
    go_wp2_with (first | (go_at_call 73; refine (sKneserBound_any _ _ _ _ _ _ _ hl (St.grp (by assumption))).mono ?_; rintro e wN ⟨rfl, hbN⟩; have hstN := St.step (by assumption) hbN; have hboxN := hstN.box; clear hbN))
    go_ret
    exact ⟨ret_b (by rw [hr.out]), St.below (by assumption)⟩

/-! ### the gap of sums and differences -/
theorem gap_in {a b c d : Nat} (ha : a ≤ 24) (hb : b ≤ 24) (hc : c ≤ 24) (hd : d ≤ 24) : wrap64 (wrap64 ((a : Int) * (b : Int)) - wrap64 ((c : Int) * (d : Int))) = (a : Int) * (b : Int) - (c : Int) * (d : Int) := by
  have h1 := mul24 ha hb
  have h2 := mul24 hc hd
  generalize (a : Int) * (b : Int) = p at *
  generalize (c : Int) * (d : Int) = q at *
  rw [IntWalk.wrap64_in p (by omega), IntWalk.wrap64_in q (by omega), IntWalk.wrap64_in _ (by omega)]
def sdG (m : List Nat) (A : Nat) : Int := ((card (sumN m A A) : Nat) : Int) * (card (sumN m A A) : Nat) - ((card (diffN m A A) : Nat) : Int) * (card A : Nat)
def sdF (l : List Int) (a : Int) : Int := if isSetB l a = true then sdG (toN l) a.toNat else -1
theorem sdF_yes {m : List Nat} {A : Nat} (hm : Ok m) (hA : A < 2 ^ prodN m) : sdF (cst m) A = sdG m A := by
  unfold sdF; rw [if_pos (isSetB_nat hm hA), toN_cst, Int.toNat_natCast]
theorem sdF_no {l : List Int} {a : Int} (h : isSetB l a = false) : sdF l a = -1 := by unfold sdF; rw [if_neg (by simp [h])]

/-! ### the gap of triangles -/
def triG (m : List Nat) (A B C : Nat) : Int := ((card (diffN m A B) : Nat) : Int) * (card (diffN m B C) : Nat) - ((card (diffN m A C) : Nat) : Int) * (card B : Nat)
def triF (l : List Int) (a b c : Int) : Int := if three l a b c = true then triG (toN l) a.toNat b.toNat c.toNat else -1
theorem triF_yes {m : List Nat} {A B C : Nat} (h : three (cst m) A B C = true) : triF (cst m) A B C = triG m A B C := by
  unfold triF; rw [if_pos h, toN_cst, Int.toNat_natCast, Int.toNat_natCast, Int.toNat_natCast]
theorem triF_no {l : List Int} {a b c : Int} (h : three l a b c = false) : triF l a b c = -1 := by unfold triF; rw [if_neg (by simp [h])]
end Go.Proofs.Ytickcopllojchaa
