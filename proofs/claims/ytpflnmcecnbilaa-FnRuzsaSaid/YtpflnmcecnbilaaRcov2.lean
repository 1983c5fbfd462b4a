/-
  Contracts: coverings by shifts, as the reference tells them.
-/
import Derived.Test.YtpflnmcecnbilaaRcov
namespace Go.Proofs.Ytpflnmcecnbilaa
open Go.RowKit

theorem part_ne {X A : Nat} : (((X &&& A : Nat) : Int) != (X : Int)) = !(((sdiff X A : Nat) : Int) == 0) := by
  have h := @part_and X A
  rw [Bool.eq_iff_iff, bne_iff_ne, Bool.not_eq_true', beq_eq_false_iff_ne]
  constructor
  · intro h1 h2; exact h1 (by rw [h.1 (by omega)])
  · intro h1 h2; exact h1 (by rw [h.2 (by omega)]; rfl)
theorem part_eq {Y A : Nat} : (((Y &&& A : Nat) : Int) == (A : Int)) = (((sdiff A Y : Nat) : Int) == 0) := by
  have h := @part_and A Y
  rw [Nat.and_comm, Bool.eq_iff_iff, beq_iff_eq, beq_iff_eq]
  constructor
  · intro h1; rw [h.2 (by omega)]; rfl
  · intro h1; rw [h.1 (by omega)]
set_option maxHeartbeats 1000000 in
theorem sIsRuzsaCover_any (b off cap : Nat) (l : List Int) (x y z : Int) (w : World) (hl : l.length ≤ 1099511627776) (hg : GrpAt w b off l) :
    Calls Try.prog 76 #[.agg #[.slice (some ⟨b, off, none⟩) l.length cap], .int .i64 x, .int .i64 y, .int .i64 z] w fun e w' => e = .returned (.bool (rcF l x y z)) ∧ Below w.heap.size w w' := by
  have hst := St.init cap 26 hg
  clear hg
  by_cases h3 : three l x y z = true
  · have h30 := three_iff.1 h3
    obtain ⟨y1, y2, y3⟩ := three_yes h3
    obtain ⟨m, A, B, X, hm, rfl, rfl, rfl, rfl, hA, hB, hX⟩ := h30
    have hr0 := rcF_yes h3
    have hA' := Nat.lt_of_lt_of_le hA hm.pow_le
    have hB' := Nat.lt_of_lt_of_le hB hm.pow_le
    have hX' := Nat.lt_of_lt_of_le hX hm.pow_le
    have hS := sumN_lt hm X B
    have hO := oppN_lt hm B
    have hT := sumN_lt hm B (oppN m B)
    have hY := sumN_lt hm X (sumN m B (oppN m B))
    have eY : diffN m (sumN m X B) B = sumN m X (sumN m B (oppN m B)) := sum_assoc hm X B (oppN m B)
    have hmul := mul24 (card_le X) (card_le B)
    have hb1 := bits_and_nat X A (by omega) (by omega)
    have hb2 := bits_and_nat (sumN m X (sumN m B (oppN m B))) A (by omega) (by omega)
    have p1 := @part_ne X A
    have p2 := hid (@part_eq (sumN m X (sumN m B (oppN m B))) A)
    have hcs := rc_cases m A B X
    rw [eY] at hcs
    clear hA hB hX h3 eY
    rcases hcs with ⟨hc1, hc⟩ | ⟨hc1, hc2, hc⟩ | ⟨hc1, hc2, hc⟩
    · have hr := hid (hr0.trans hc)
      rw [hc1] at p1
      clear hr0 hc hc1
      go_enter Try.func76, Try.ntmps76
      go_wp2_with (first | (go_at_call 64; refine (sIsSet_any _ _ _ _ _ _ hl (St.grp (by assumption))).mono ?_; rintro e wN ⟨rfl, hbN⟩; have hstN := St.step (by assumption) hbN; have hboxN := hstN.box; clear hbN))
      go_ret
      exact ⟨ret_b (by rw [hr.out]), St.below (by assumption)⟩
    · have hr := hid (hr0.trans hc)
      rw [hc1] at p1
      have hc3 : (((card (sumN m X B) : Nat) : Int) != ((card X : Nat) : Int) * ((card B : Nat) : Int)) = true := by rw [bne, hc2]; rfl
      clear hr0 hc hc1 hc2
      go_enter Try.func76, Try.ntmps76
      go_wp2_with (first | (go_at_call 64; refine (sIsSet_any _ _ _ _ _ _ hl (St.grp (by assumption))).mono ?_; rintro e wN ⟨rfl, hbN⟩; have hstN := St.step (by assumption) hbN; have hboxN := hstN.box; clear hbN) | (go_at_call 117; refine (l4Sum_any _ _ _ _ _ _ _ hm (by omega) (by omega) (St.grp (by assumption))).mono ?_; rintro e wN ⟨rfl, hbN⟩; have hstN := St.step (by assumption) hbN; have hboxN := hstN.box; clear hbN) | (go_at_call 116; refine (l3Bits_any _ _ (by omega)).mono ?_; rintro e wN ⟨rfl, rfl⟩))
      go_ret
      exact ⟨ret_b (by rw [hr.out]), St.below (by assumption)⟩
    · have hr := hid (hr0.trans hc)
      rw [hc1] at p1
      have hc3 : (((card (sumN m X B) : Nat) : Int) != ((card X : Nat) : Int) * ((card B : Nat) : Int)) = false := by rw [bne, hc2]; rfl
      clear hr0 hc hc1 hc2
      go_enter Try.func76, Try.ntmps76
      go_wp2_with (first | (go_at_call 64; refine (sIsSet_any _ _ _ _ _ _ hl (St.grp (by assumption))).mono ?_; rintro e wN ⟨rfl, hbN⟩; have hstN := St.step (by assumption) hbN; have hboxN := hstN.box; clear hbN) | (go_at_call 117; refine (l4Sum_any _ _ _ _ _ _ _ hm (by omega) (by omega) (St.grp (by assumption))).mono ?_; rintro e wN ⟨rfl, hbN⟩; have hstN := St.step (by assumption) hbN; have hboxN := hstN.box; clear hbN) | (go_at_call 116; refine (l3Bits_any _ _ (by omega)).mono ?_; rintro e wN ⟨rfl, rfl⟩))
      have hst3 : St w b off cap (cst m) wN := by assumption
      have hst4 := hst3.drew
      clear hst hst3 hboxN
      go_region_held3 (fun w' => w'.cell? ⟨w.heap.size, 0, none⟩ = some (.slice (some ⟨b, off, none⟩) (cst m).length cap) ∧ St w b off cap (cst m) w') (first | exact ⟨hst4.box, hst4⟩ | exact St.keep (by assumption) hb1 | assumption) (first | (go_at_call 157; refine (l3Negate_any _ _ _ _ _ _ hm (by omega) (St.grpOf (by assumption))).mono ?_; rintro e w1 ⟨rfl, hb1⟩) | (go_at_call 117; refine (l4Sum_any _ _ _ _ _ _ _ hm (by omega) (by omega) (St.grpOf (by assumption))).mono ?_; rintro e w1 ⟨rfl, hb1⟩))
      have hst5 : St w b off cap (cst m) w1 := And.right (by assumption)
      go_wp2
      go_ret
      exact ⟨ret_b (by rw [hr.out]; exact p2.out), hst5.below⟩
  · have h3' : three l x y z = false := by simpa using h3
    have hr := hid (rcF_no h3')
    clear h3
    rcases three_no h3' with h1 | ⟨h1, h2⟩ | ⟨h1, h2, h4⟩
    all_goals
      go_enter Try.func76, Try.ntmps76
      go_wp2_with (first | (go_at_call 64; refine (sIsSet_any _ _ _ _ _ _ hl (St.grp (by assumption))).mono ?_; rintro e wN ⟨rfl, hbN⟩; have hstN := St.step (by assumption) hbN; have hboxN := hstN.box; clear hbN))
      go_ret
      exact ⟨ret_b (by rw [hr.out]), St.below (by assumption)⟩
end Go.Proofs.Ytpflnmcecnbilaa
