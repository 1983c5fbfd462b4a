/-
  Contracts of the reference: the lowest element of a set, the affine hull.
-/
import Derived.Test.YtpflnmcecnbilaaFGro
import Derived.Test.YtpflnmcecnbilaaCoset
namespace Go.Proofs.Ytpflnmcecnbilaa
open Go.RowKit

theorem low_more {A k : Nat} (hA : A < 16777216) (h0 : A ≠ 0) (h : memTo A k = []) (hk : k ≤ 24) : k < 24 := by
  rcases Nat.lt_or_ge k 24 with h1 | h1
  · exact h1
  · have e : k = 24 := by omega
    subst e
    have h2 := ne_zero_card hA h0
    have e2 : mem A = [] := h
    unfold card at h2; rw [e2] at h2; simp at h2
theorem low_end {A k : Nat} (h : memTo A k = []) (hk : k < 24) (ht : A.testBit k = true) : k = lowN A := by
  have key : ∀ d, ∃ r, memTo A (k + 1 + d) = k :: r := by
    intro d
    induction d with
    | zero => exact ⟨[], by show memTo A (k + 1) = _; rw [memTo_yes ht, h]; rfl⟩
    | succ d ih =>
      obtain ⟨r, e⟩ := ih
      show ∃ r, memTo A (k + 1 + d + 1) = k :: r
      cases ht2 : A.testBit (k + 1 + d) with
      | true => exact ⟨r ++ [k + 1 + d], by rw [memTo_yes ht2, e]; rfl⟩
      | false => exact ⟨r, by rw [memTo_no ht2, e]⟩
  obtain ⟨r, e⟩ := key (23 - k)
  rw [show k + 1 + (23 - k) = 24 from by omega] at e
  have e2 : mem A = k :: r := e
  unfold lowN; rw [e2]; rfl
def hullF (l : List Int) (a : Int) : Int := if isSetB l a = true ∧ a ≠ 0 then (hullN (toN l) a.toNat : Nat) else -1
theorem hullF_yes {m : List Nat} {A : Nat} (h : isSetB (cst m) A = true) (h0 : A ≠ 0) : hullF (cst m) A = (hullN m A : Nat) := by
  unfold hullF; rw [if_pos ⟨h, by omega⟩, toN_cst, Int.toNat_natCast]
theorem hullF_zero (l : List Int) : hullF l 0 = -1 := by unfold hullF; rw [if_neg (by simp)]
theorem hullF_no {l : List Int} {a : Int} (h : isSetB l a = false) : hullF l a = -1 := by unfold hullF; rw [if_neg (by simp [h])]

set_option maxHeartbeats 1000000 in
theorem l5Low_any (A : Nat) (w : World) (hA : A < 16777216) (h0 : A ≠ 0) :
    Calls Try.prog 173 #[.int .i64 A] w fun e w' => e = .returned (.int .i64 (lowN A : Nat)) ∧ Below w.heap.size w w' := by
  have hne := hid h0
  clear h0
  go_enter Try.func173, Try.ntmps173
  go_wp2_with fail
  go_loopw [3] (fun i wr => ∃ k : Nat, i = .int .i64 k ∧ k ≤ 24 ∧ Hid (memTo A k = []) ∧ Below w.heap.size w wr) (fun i _ => 24 - (intOf i).toNat)
  case atStart => exact ⟨0, rfl, by omega, memTo_zero A, Below.refl _ _⟩
  case round =>
    rename_i wr
    obtain ⟨k, rfl, hk, hm, hbr⟩ := hrel
    have hk24 := low_more hA hne.out hm.out hk
    have htb := shrC_test0 k hA
    by_cases ht : A.testBit k = true
    · have hfin := hid (low_end hm.out hk24 ht)
      rw [ht] at htb
      clear ht
      go_wp2
      go_ret
      exact ⟨ret_i (by rw [← hfin.out]), by first | exact hbr | exact hbr.drew⟩
    · have hf : A.testBit k = false := by simpa using ht
      have hn : Hid (memTo A (k + 1) = []) := by unfold Hid; rw [memTo_no hf]; exact hm.out
      rw [hf] at htb
      clear ht hf
      go_wp2
      go_roundw
      case rel => exact ⟨k + 1, by go_num, by omega, hn, by first | exact hbr | exact hbr.drew⟩
      case measure => simp [intOf]; omega

set_option maxHeartbeats 1000000 in
theorem sAffineHull_any (b off cap : Nat) (l : List Int) (a : Int) (w : World) (hl : l.length ≤ 1099511627776) (hg : GrpAt w b off l) :
    Calls Try.prog 111 #[.agg #[.slice (some ⟨b, off, none⟩) l.length cap], .int .i64 a] w fun e w' => e = .returned (.int .i64 (hullF l a)) ∧ Below w.heap.size w w' := by
  have hst := St.init cap 26 hg
  clear hg
  by_cases hs : isSetB l a = true
  · have h3 := isSetB_iff.1 hs
    obtain ⟨m, A, hm, rfl, rfl, hA⟩ := h3
    have hA' := Nat.lt_of_lt_of_le hA hm.pow_le
    by_cases h0 : A = 0
    · subst h0
      have hr := hid (hullF_zero (cst m))
      clear hA
      go_enter Try.func111, Try.ntmps111
      go_wp2_with (first | (go_at_call 64; refine (sIsSet_any _ _ _ _ _ _ hl (St.grp (by assumption))).mono ?_; rintro e wN ⟨rfl, hbN⟩; have hstN := St.step (by assumption) hbN; have hboxN := hstN.box; clear hbN))
      go_ret
      exact ⟨ret_i (by rw [← hr.out]; rfl), St.below (by assumption)⟩
    · have hr := hid (hullF_yes hs h0)
      have hAI : ((A : Int) == 0) = false := by rw [beq_eq_false_iff_ne]; omega
      have hx := mem_lt (lowN_mem hA' h0)
      have hny : negN m (lowN A) < 24 := Nat.lt_of_lt_of_le (hm.neg_lt _) hm.ord
      have hsh := shiftN_lt hm A (negN m (lowN A))
      have hgl := Nat.lt_of_lt_of_le (genN_lt hm (shiftN m A (negN m (lowN A)))) hm.pow_le
      have hd : Hid (hullN m A = shiftN m (genN m (shiftN m A (negN m (lowN A)))) (lowN A)) := rfl
      clear hA
      go_enter Try.func111, Try.ntmps111
      go_wp2_with (first | (go_at_call 64; refine (sIsSet_any _ _ _ _ _ _ hl (St.grp (by assumption))).mono ?_; rintro e wN ⟨rfl, hbN⟩; have hstN := St.step (by assumption) hbN; have hboxN := hstN.box; clear hbN))
      refine (l5Low_any A _ hA' h0).mono ?_; rintro e w2 ⟨rfl, hb2⟩
      have hst2 := hstN.step hb2
      have hst0 := hst2.drew
      have hbox2 := hst2.box
      clear hstN hboxN hb2 hst hs
      go_wp2_with fail
      go_region_held3 (fun w' => w'.cell? ⟨w.heap.size, 0, none⟩ = some (.slice (some ⟨b, off, none⟩) (cst m).length cap) ∧ St w b off cap (cst m) w') (first | exact ⟨hst0.box, hst0⟩ | exact St.keep (by assumption) hb1 | assumption) (first | (go_at_call 140; refine (l2Negate_any _ _ _ _ _ _ hm (by omega) (St.grpOf (by assumption))).mono ?_; rintro e w1 ⟨rfl, hb1⟩) | (go_at_call 159; refine (l3Shift_any _ _ _ _ _ _ _ hm (by omega) (by omega) (St.grpOf (by assumption))).mono ?_; rintro e w1 ⟨rfl, hb1⟩) | (go_at_call 174; refine (l5Closure_any _ _ _ _ _ _ hm (by omega) (St.grpOf (by assumption))).mono ?_; rintro e w1 ⟨rfl, hb1⟩))
      all_goals
        have hst3 : St w b off cap (cst m) w1 := And.right (by assumption)
        go_wp2
        go_ret
        exact ⟨ret_i (by rw [hr.out, hd.out]), hst3.below⟩
  · have hs' : isSetB l a = false := by simpa using hs
    have hr := hid (hullF_no hs')
    clear hs
    go_enter Try.func111, Try.ntmps111
    go_wp2_with (first | (go_at_call 64; refine (sIsSet_any _ _ _ _ _ _ hl (St.grp (by assumption))).mono ?_; rintro e wN ⟨rfl, hbN⟩; have hstN := St.step (by assumption) hbN; have hboxN := hstN.box; clear hbN))
    go_ret
    exact ⟨ret_i (by rw [hr.out]), St.below (by assumption)⟩
end Go.Proofs.Ytpflnmcecnbilaa
