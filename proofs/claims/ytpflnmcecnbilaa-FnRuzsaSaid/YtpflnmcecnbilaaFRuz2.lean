/-
  Plain laws and contracts: what FnRuzsa asks, all together.
-/
import Derived.Test.YtpflnmcecnbilaaFRuz
import Derived.Test.YtpflnmcecnbilaaTri2
import Derived.Test.YtpflnmcecnbilaaTight
import Derived.Test.YtpflnmcecnbilaaRcov2
import Derived.Test.YtpflnmcecnbilaaLaw5
namespace Go.Proofs.Ytpflnmcecnbilaa
open Go.RowKit

def diffF (l : List Int) (a b : Int) : Int := if two l a b = true then (diffN (toN l) a.toNat b.toNat : Nat) else -1
theorem diffF_yes {m : List Nat} {A B : Nat} (hm : Ok m) (hA : A < 2 ^ prodN m) (hB : B < 2 ^ prodN m) : diffF (cst m) A B = (diffN m A B : Nat) := by
  unfold diffF; rw [if_pos (two_iff.2 ⟨m, A, B, hm, rfl, rfl, rfl, hA, hB⟩), toN_cst, Int.toNat_natCast, Int.toNat_natCast]
theorem diffF_no {l : List Int} {a b : Int} (h : two l a b = false) : diffF l a b = -1 := by unfold diffF; rw [if_neg (by simp [h])]
theorem sDifference_any (b off cap : Nat) (l : List Int) (x y : Int) (w : World) (hl : l.length ≤ 1099511627776) (hg : GrpAt w b off l) :
    Calls Try.prog 63 #[.agg #[.slice (some ⟨b, off, none⟩) l.length cap], .int .i64 x, .int .i64 y] w fun e w' => e = .returned (.int .i64 (diffF l x y)) ∧ Below w.heap.size w w' := by
  by_cases h2 : two l x y = true
  · obtain ⟨m, A, B, hm, rfl, rfl, rfl, hA, hB⟩ := two_iff.1 h2
    rw [diffF_yes hm hA hB]
    exact sDifference_yes _ _ _ _ _ _ _ hm hA hB hg
  · have h2' : two l x y = false := by simpa using h2
    have hr := hid (diffF_no h2')
    have hst := St.init cap 26 hg
    clear h2
    rcases two_no h2' with h1 | ⟨h1, h3⟩
    all_goals
      go_enter Try.func63, Try.ntmps63
      go_wp2_with (first | (go_at_call 64; refine (sIsSet_any _ _ _ _ _ _ hl (St.grp (by assumption))).mono ?_; rintro e wN ⟨rfl, hbN⟩; have hstN := St.step (by assumption) hbN; have hboxN := hstN.box; clear hbN))
      go_ret
      exact ⟨ret_i (by rw [hr.out]), St.below (by assumption)⟩
/-- what the triangle's first part asks -/
theorem ruzsa_tri {l : List Int} {a b c : Int} (h : three l a b c = true) : 0 ≤ triF l a b c ∧ ∃ u v : Nat, countF l (diffF l a c) = (u : Int) ∧ countF l b = (v : Int) ∧ triA l a b c = u * v ∧ u ≤ 24 ∧ v ≤ 24 := by
  obtain ⟨m, A, B, C, hm, rfl, rfl, rfl, rfl, hA, hB, hC⟩ := three_iff.1 h
  refine ⟨?_, card (diffN m A C), card B, ?_, countF_yes hm hB, triA_yes h, card_le _, card_le _⟩
  · rw [triF_yes h]
    have := triangle hm hA hB hC
    unfold triG
    rw [← Int.natCast_mul, ← Int.natCast_mul]; omega
  · rw [diffF_yes hm hA hC]; exact countF_yes hm (hm.sum_lt A (oppN m C))
/-- what the cover asks -/
theorem ruzsa_cov {l : List Int} {a b : Int} (h : covOk l a b = true) : rcF l a b (covA l a b) = true ∧ ∃ r v s : Nat, packedF l a b = (r : Int) ∧ countF l (covA l a b) = (r : Int) ∧ countF l b = (v : Int) ∧ countF l (sumF l a b) = (s : Int) ∧ r * v ≤ s ∧ r ≤ 24 ∧ v ≤ 24 ∧ s ≤ 24 := by
  obtain ⟨h2, _, _, hb0⟩ := covOk_yes h
  obtain ⟨m, A, B, hm, rfl, rfl, rfl, hA, hB⟩ := two_iff.1 h2
  have hB0 : B ≠ 0 := by rw [beq_eq_false_iff_ne] at hb0; omega
  obtain ⟨hX, hrc, hle⟩ := cover_spec hm hA hB hB0
  have h3 : three (cst m) A B (packN m A B : Nat) = true := three_iff.2 ⟨m, A, B, _, hm, rfl, rfl, rfl, rfl, hA, hB, hX⟩
  rw [covA_yes h]
  refine ⟨by rw [rcF_yes h3]; exact hrc, card (packN m A B), card B, card (sumN m A B), packedF_yes h, countF_yes hm hX, countF_yes hm hB, ?_, hle, card_le _, card_le _, card_le _⟩
  rw [sumF_yes hm hA hB]; exact countF_yes hm (hm.sum_lt A B)
theorem ruzsa_sd {l : List Int} {a : Int} (h : isSetB l a = true) : 0 ≤ sdF l a := by
  obtain ⟨m, A, hm, rfl, rfl, hA⟩ := isSetB_iff.1 h
  rw [sdF_yes hm hA]
  have := sum_difference hm hA
  unfold sdG
  rw [← Int.natCast_mul, ← Int.natCast_mul]; omega
end Go.Proofs.Ytpflnmcecnbilaa
