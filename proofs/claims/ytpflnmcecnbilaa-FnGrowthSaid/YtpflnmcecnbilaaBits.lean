/-
  Contracts: how many bits are set.
-/
import Derived.Test.YtpflnmcecnbilaaMem
namespace Go.Proofs.Ytpflnmcecnbilaa
open Go.RowKit

def pop (A : Nat) : Nat := if A = 0 then 0 else A % 2 + pop (A / 2)
termination_by A
decreasing_by omega
theorem pop_zero : pop 0 = 0 := by rw [pop]; simp
theorem pop_step (A : Nat) : pop A = A % 2 + pop (A / 2) := by
  by_cases h : A = 0
  · subst h; rw [pop_zero]
  · rw [pop, if_neg h]
theorem testBit_mod2 (A : Nat) : A.testBit 0 = decide (A % 2 = 1) := by simp
theorem pop_memTo (A k : Nat) : (memTo A k).length + pop (A >>> k) = pop A := by
  induction k with
  | zero => simp [memTo]
  | succ k ih =>
    rw [← ih, pop_step (A >>> k), Nat.shiftRight_succ]
    have ht := testBit_shr0 A k
    rw [testBit_mod2] at ht
    by_cases h : A.testBit k = true
    · rw [memTo_yes h, List.length_append]
      rw [h] at ht
      have := of_decide_eq_true ht
      simp; omega
    · have h' : A.testBit k = false := by simpa using h
      rw [memTo_no h']
      rw [h'] at ht
      have := of_decide_eq_false ht
      omega
theorem card_pop {A : Nat} (hA : A < 16777216) : card A = pop A := by
  have h := pop_memTo A 24
  have h0 : A >>> 24 = 0 := by rw [Nat.shiftRight_eq_div_pow]; exact Nat.div_eq_of_lt hA
  rw [h0, pop_zero] at h
  exact h
theorem pop_clear (A : Nat) (h : A ≠ 0) : pop (A &&& (A - 1)) + 1 = pop A := by
  induction A using Nat.strongRecOn with
  | ind A ih =>
    have ex : ∀ x y a b : Nat, a < 2 → b < 2 → (2 * x + a) &&& (2 * y + b) = 2 * (x &&& y) + (a &&& b) := fun x y a b ha hb => by
      have e1 : ((2 * x + a) &&& (2 * y + b)) / 2 = x &&& y := by rw [Nat.and_div_two]; congr 1 <;> omega
      have e2 : ((2 * x + a) &&& (2 * y + b)) % 2 = a &&& b := by
        rw [Nat.and_mod_two_pow (n := 1)]
        rcases (by omega : a = 0 ∨ a = 1) with rfl | rfl <;> rcases (by omega : b = 0 ∨ b = 1) with rfl | rfl <;> simp
      omega
    by_cases ho : A % 2 = 1
    · have e : A &&& (A - 1) = 2 * (A / 2) := by
        have := ex (A / 2) (A / 2) 1 0 (by omega) (by omega)
        rw [show 2 * (A / 2) + 1 = A from by omega, show 2 * (A / 2) + 0 = A - 1 from by omega, Nat.and_self] at this
        simpa using this
      rw [e, pop_step (2 * (A / 2)), pop_step A, show 2 * (A / 2) % 2 = 0 from by omega, show 2 * (A / 2) / 2 = A / 2 from by omega]; omega
    · have e : A &&& (A - 1) = 2 * ((A / 2) &&& (A / 2 - 1)) := by
        have := ex (A / 2) (A / 2 - 1) 0 1 (by omega) (by omega)
        rw [show 2 * (A / 2) + 0 = A from by omega, show 2 * (A / 2 - 1) + 1 = A - 1 from by omega] at this
        simpa using this
      have := ih (A / 2) (by omega) (by omega)
      rw [e, pop_step (2 * _), pop_step A]
      generalize A / 2 &&& (A / 2 - 1) = q at *
      rw [show 2 * q % 2 = 0 from by omega, show 2 * q / 2 = q from by omega]; omega
theorem pop_le24 {A : Nat} (hA : A < 16777216) : pop A ≤ 24 := by rw [← card_pop hA]; exact card_le A
set_option maxHeartbeats 400000 in
theorem bits_any (A : Nat) (w : World) (hA : A < 16777216) :
    Calls Try.prog 114 #[.int .i64 A] w fun e w' => e = .returned (.int .i64 (card A : Nat)) ∧ w = w' := by
  have hcp := hid (card_pop hA)
  go_enter Try.func114, Try.ntmps114
  go_wp2
  go_loop [0, 3] (fun u v => ∃ X n : Nat, u = .int .i64 X ∧ v = .int .i64 n ∧ X < 16777216 ∧ n ≤ 24 ∧ Hid (n + pop X = pop A)) (fun u _ => (intOf u).toNat)
  case atStart => exact ⟨A, 0, rfl, rfl, hA, by omega, by simp [Hid]⟩
  case round =>
    obtain ⟨X, n, rfl, rfl, hX, hn, hp⟩ := hrel
    by_cases h0 : X = 0
    · have hend : Hid (n = card A) := by have := hp.out; rw [h0, pop_zero] at this; unfold Hid; rw [hcp.out]; omega
      subst h0
      go_wp2
      go_ret
      exact ⟨ret_i (by rw [hend.out]), rfl⟩
    · have hb : ((X : Int) != 0) = true := by rw [bne_iff_ne]; omega
      have h1 : 1 ≤ X := by omega
      have hpc := pop_clear X h0
      have hle : X &&& (X - 1) < X := Nat.lt_of_le_of_lt Nat.and_le_right (by omega)
      have hbits : bits BinOp.and IntKind.i64 (X : Int) ((X : Int) - 1) = ((X &&& (X - 1) : Nat) : Int) := by
        rw [show ((X : Int) - 1) = ((X - 1 : Nat) : Int) from by omega]; exact bits_and_nat _ _ (by omega) (by omega)
      have hn' : n + 1 ≤ 24 := by have h3 := hp.out; have h4 := pop_le24 hA; omega
      have hp' : Hid (n + 1 + pop (X &&& (X - 1)) = pop A) := by have := hp.out; unfold Hid; omega
      clear hpc
      generalize X &&& (X - 1) = Y at *
      go_wp2
      go_round
      case rel => exact ⟨Y, n + 1, rfl, by go_num, by omega, by omega, hp'⟩
      case measure => simp [intOf]; omega
set_option maxHeartbeats 400000 in
theorem l3Bits_any (A : Nat) (w : World) (hA : A < 16777216) :
    Calls Try.prog 116 #[.int .i64 A] w fun e w' => e = .returned (.int .i64 (card A : Nat)) ∧ w = w' := by
  have hcp := hid (card_pop hA)
  go_enter Try.func116, Try.ntmps116
  go_wp2
  go_loop [3, 4] (fun v u => ∃ X n : Nat, u = .int .i64 X ∧ v = .int .i64 n ∧ X < 16777216 ∧ n ≤ 24 ∧ Hid (n + pop X = pop A)) (fun _ u => (intOf u).toNat)
  case atStart => exact ⟨A, 0, rfl, rfl, hA, by omega, by simp [Hid]⟩
  case round =>
    obtain ⟨X, n, rfl, rfl, hX, hn, hp⟩ := hrel
    by_cases h0 : X = 0
    · have hend : Hid (n = card A) := by have := hp.out; rw [h0, pop_zero] at this; unfold Hid; rw [hcp.out]; omega
      have hle0 : X ≤ 0 := by omega
      clear h0
      go_wp2
      go_ret
      exact ⟨ret_i (by rw [hend.out]), rfl⟩
    · have h1 : 0 < X := by omega
      have hbits : bits BinOp.and IntKind.i64 (X : Int) 1 = ((X % 2 : Nat) : Int) := by
        rw [show (1 : Int) = ((1 : Nat) : Int) from rfl, bits_and_nat _ _ (by omega) (by omega), Nat.and_one_is_mod]
      have hs := pop_step X
      have hn' : n + X % 2 ≤ 24 := by have h3 := hp.out; have h4 := pop_le24 hA; omega
      have hp' : Hid (n + X % 2 + pop (X / 2) = pop A) := by have := hp.out; unfold Hid; omega
      clear hs h0
      go_wp2
      go_round
      case rel => exact ⟨X / 2, n + X % 2, by go_num, by go_num, by omega, by omega, hp'⟩
      case measure => simp [intOf]; omega
end Go.Proofs.Ytpflnmcecnbilaa
