/-
  Contracts: two ratios compared.
-/
import Derived.Test.YtpflnmcecnbilaaBase
namespace Go.Proofs.Ytpflnmcecnbilaa
open Go.RowKit

def cmpGood (a b c d : Int) : Prop := 0 ≤ a ∧ a ≤ 1000000 ∧ 0 ≤ c ∧ c ≤ 1000000 ∧ 1 ≤ b ∧ b ≤ 1000000 ∧ 1 ≤ d ∧ d ≤ 1000000
instance (a b c d : Int) : Decidable (cmpGood a b c d) := by unfold cmpGood; exact inferInstance
/-- what both programs answer -/
def cmpF (a b c d : Int) : Int := if cmpGood a b c d then (if wrap64 (a * d) < wrap64 (c * b) then -1 else if wrap64 (c * b) < wrap64 (a * d) then 1 else 0) else -2
theorem cmpF_bad {a b c d : Int} (h : ¬ cmpGood a b c d) : cmpF a b c d = -2 := by unfold cmpF; rw [if_neg h]
theorem cmpF_lt {a b c d : Int} (h : cmpGood a b c d) (h1 : wrap64 (a * d) < wrap64 (c * b)) : cmpF a b c d = -1 := by unfold cmpF; rw [if_pos h, if_pos h1]
theorem cmpF_gt {a b c d : Int} (h : cmpGood a b c d) (h1 : ¬ wrap64 (a * d) < wrap64 (c * b)) (h2 : wrap64 (c * b) < wrap64 (a * d)) : cmpF a b c d = 1 := by unfold cmpF; rw [if_pos h, if_neg h1, if_pos h2]
theorem cmpF_eq {a b c d : Int} (h : cmpGood a b c d) (h1 : ¬ wrap64 (a * d) < wrap64 (c * b)) (h2 : ¬ wrap64 (c * b) < wrap64 (a * d)) : cmpF a b c d = 0 := by unfold cmpF; rw [if_pos h, if_neg h1, if_neg h2]

set_option maxHeartbeats 1000000 in
theorem sCompareRatios_any (a b c d : Int) (w : World) :
    Calls Try.prog 31 #[.int .i64 a, .int .i64 b, .int .i64 c, .int .i64 d] w fun e w' => e = .returned (.int .i64 (cmpF a b c d)) ∧ w = w' := by
  go_enter Try.func31, Try.ntmps31
  go_wp2
  all_goals
    (try simp only [Bool.not_eq_true', decide_eq_false_iff_not, decide_eq_true_eq, Bool.not_eq_false'] at *)
    go_ret
    refine ⟨ret_i ?_, rfl⟩
    first
    | exact (cmpF_bad (by unfold cmpGood; omega)).symm
    | exact (cmpF_lt (by unfold cmpGood; omega) (by omega)).symm
    | exact (cmpF_gt (by unfold cmpGood; omega) (by omega) (by omega)).symm
    | exact (cmpF_eq (by unfold cmpGood; omega) (by omega) (by omega)).symm
set_option maxHeartbeats 1000000 in
theorem compareRatios_any (a b c d : Int) (w : World) :
    Calls Try.prog 18 #[.int .i64 a, .int .i64 b, .int .i64 c, .int .i64 d] w fun e w' => e = .returned (.int .i64 (cmpF a b c d)) ∧ w = w' := by
  go_enter Try.func18, Try.ntmps18
  go_wp2
  all_goals
    (try simp only [Bool.not_eq_true', decide_eq_false_iff_not, decide_eq_true_eq, Bool.not_eq_false'] at *)
    go_ret
    refine ⟨ret_i ?_, rfl⟩
    first
    | exact (cmpF_bad (by unfold cmpGood; omega)).symm
    | exact (cmpF_lt (by unfold cmpGood; omega) (by omega)).symm
    | exact (cmpF_gt (by unfold cmpGood; omega) (by omega) (by omega)).symm
    | exact (cmpF_eq (by unfold cmpGood; omega) (by omega) (by omega)).symm
end Go.Proofs.Ytpflnmcecnbilaa
