/-
  Contracts: the exponent of a group.
-/
import Derived.Test.YtpflnmcecnbilaaAdd
import Derived.Test.YtpflnmcecnbilaaGrp2
import Derived.BigQuiet
import Derived.Deep.QuietTactic
namespace Go.Proofs.Ytpflnmcecnbilaa
open Go.RowKit

def expTo (m : List Nat) (k : Nat) : Nat := (m.take k).foldl Nat.lcm 1
def expN (m : List Nat) : Nat := expTo m m.length
theorem expTo_succ {m : List Nat} {k : Nat} (h : k < m.length) : expTo m (k + 1) = Nat.lcm (expTo m k) (m.getD k 0) := by
  unfold expTo; rw [take_snoc m 0 k h, List.foldl_append]; rfl
theorem expTo_end {m : List Nat} {k : Nat} (h : m.length ≤ k) : expTo m k = expN m := by
  unfold expN expTo; rw [List.take_of_length_le h, List.take_of_length_le (Nat.le_refl _)]
theorem expTo_dvd {m : List Nat} : ∀ k, k ≤ m.length → expTo m k ∣ prodN (m.take k)
  | 0, _ => by simp [expTo, prodN]
  | k + 1, h => by
    rw [expTo_succ (by omega), take_snoc m 0 k (by omega), prodN_append]
    have ih := expTo_dvd (m := m) k (by omega)
    refine Nat.lcm_dvd (Nat.dvd_trans ih (Nat.dvd_mul_right _ _)) ?_
    simp [prodN]
    exact Nat.dvd_mul_left _ _
theorem expTo_bd {m : List Nat} (hm : Ok m) {k : Nat} (h : k ≤ m.length) : 1 ≤ expTo m k ∧ expTo m k ≤ 24 := by
  have h1 := expTo_dvd k h
  have h2 := hm.take_pos k
  have h3 := hm.take_le k
  exact ⟨Nat.pos_of_dvd_of_pos h1 h2, Nat.le_trans (Nat.le_of_dvd h2 h1) h3⟩
theorem expN_bd {m : List Nat} (hm : Ok m) : 1 ≤ expN m ∧ expN m ≤ 24 := expTo_bd hm (Nat.le_refl _)
theorem lcm_div {E o : Nat} (ho : 0 < o) : E / Nat.gcd E o * o = Nat.lcm E o := by
  obtain ⟨t, ht⟩ := Nat.gcd_dvd_left E o
  have hg : 0 < Nat.gcd E o := Nat.gcd_pos_of_pos_right _ ho
  unfold Nat.lcm
  generalize Nat.gcd E o = g at *
  rw [ht, Nat.mul_div_cancel_left _ hg, Nat.mul_assoc, Nat.mul_div_cancel_left _ hg]
/-- the first multiple that is divided is the least one -/
theorem lcm_first {E o j : Nat} (hE : 1 ≤ E) (ho : 1 ≤ o) (hj : 1 ≤ j) (hd : o ∣ E * j) (hno : ∀ i, 1 ≤ i → i < j → ¬ o ∣ E * i) : E * j = Nat.lcm E o := by
  have h1 : Nat.lcm E o ∣ E * j := Nat.lcm_dvd (Nat.dvd_mul_right _ _) hd
  obtain ⟨t, ht⟩ := Nat.dvd_lcm_left E o
  have hp : 0 < Nat.lcm E o := Nat.lcm_pos (by omega) (by omega)
  have ht0 : 1 ≤ t := by
    rcases Nat.eq_zero_or_pos t with h | h
    · rw [h, Nat.mul_zero] at ht; omega
    · exact h
  have hle : j ≤ t := by
    rcases Nat.lt_or_ge t j with h | h
    · exact (hno t ht0 h (by rw [← ht]; exact Nat.dvd_lcm_right E o)).elim
    · exact h
  have h2 : Nat.lcm E o ≤ E * j := Nat.le_of_dvd (Nat.mul_pos hE hj) h1
  have h3 : E * j ≤ E * t := Nat.mul_le_mul_left _ hle
  omega
def gcdE (x y : Nat) : Nat := Nat.gcd x y
theorem gcdE_step {x y : Nat} : gcdE y (x % y) = gcdE x y := by
  unfold gcdE; rw [Nat.gcd_comm y, ← Nat.gcd_rec, Nat.gcd_comm]
theorem gcdE_zero (x : Nat) : gcdE x 0 = x := Nat.gcd_zero_right x
theorem belowE_drewN {B : Nat} {a w : World} (h : Below B a w) (n : Nat) : Below B a (w.drewN n) := h.trans ⟨rfl, rfl, rfl, Nat.le_refl _, fun _ _ => rfl⟩
set_option maxHeartbeats 400000 in
theorem gcdE_any (x y : Nat) (w : World) (hx : x ≤ 16777216) (hy : y ≤ 16777216) :
    Calls Try.prog 175 #[.int .i64 x, .int .i64 y] w fun e w' => e = .returned (.int .i64 (gcdE x y : Nat)) ∧ Below w.heap.size w w' := by
  go_enter Try.func175, Try.ntmps175
  go_wp2
  go_loopw [0, 1] (fun u v wr => ∃ X Y : Nat, u = .int .i64 X ∧ v = .int .i64 Y ∧ X ≤ 16777216 ∧ Y ≤ 16777216 ∧ Hid (gcdE X Y = gcdE x y) ∧ Below w.heap.size w wr) (fun _ v _ => (intOf v).toNat)
  case atStart => exact ⟨x, y, rfl, rfl, hx, hy, rfl, Below.refl _ _⟩
  case round =>
    obtain ⟨X, Y, rfl, rfl, hX, hY, hr, hbw⟩ := hrel
    by_cases h0 : Y = 0
    · have he : Hid (X = gcdE x y) := by have := hr.out; rw [h0, gcdE_zero] at this; exact this
      subst h0
      go_wp2
      go_ret
      exact ⟨ret_i (by rw [← he.out]), hbw⟩
    · have hb : ((Y : Int) != 0) = true := by rw [bne_iff_ne]; omega
      have h1 : 1 ≤ Y := by omega
      have hm := Nat.mod_lt X (show Y > 0 by omega)
      have hr' : Hid (gcdE Y (X % Y) = gcdE x y) := by unfold Hid; rw [gcdE_step]; exact hr.out
      have hmi : 0 ≤ (X : Int) % (Y : Int) ∧ (X : Int) % (Y : Int) < (Y : Int) := ⟨Int.emod_nonneg _ (by omega), Int.emod_lt_of_pos _ (by omega)⟩
      clear h0
      go_wp2
      go_quiet (fail)
      go_wp2
      go_roundw
      case rel => exact ⟨Y, X % Y, rfl, by go_num, hY, by omega, hr', belowE_drewN hbw _⟩
      case measure => simp [intOf]; omega
set_option maxHeartbeats 400000 in
theorem exponentOf_yes (b off cap : Nat) (m : List Nat) (w : World) (hm : Ok m) (hg : GrpAt w b off (cst m)) :
    Calls Try.prog 187 #[.agg #[.slice (some ⟨b, off, none⟩) (cst m).length cap]] w fun e w' => e = .returned (.int .i64 (expN m : Nat)) ∧ Below w.heap.size w w' := by
  have hst := St.init cap 26 hg
  have hl : (cst m).length ≤ 3 := by rw [cst_length]; exact hm.len
  have hgr := hid (ok_grp hm)
  go_enter Try.func187, Try.ntmps187
  go_wp2_with fail
  refine (isGroup_any _ _ _ _ _ (by omega) hst.grp).mono ?_; rintro e w1 ⟨rfl, hb1⟩; rw [hgr.out]; have hst1 := hst.step hb1; have hbox1 := hst1.box
  clear hst hb1 hg
  go_wp2
  go_loopw [3, 12] (fun n i wr => ∃ k E : Nat, i = .int .i64 k ∧ k ≤ (cst m).length ∧ n = .int .i64 E ∧ 1 ≤ E ∧ E ≤ 24 ∧ Hid (E = expTo m k) ∧ St w b off cap (cst m) wr) (fun _ i _ => (cst m).length - (intOf i).toNat)
  case atStart => exact ⟨0, 1, rfl, by omega, rfl, by omega, by omega, rfl, hst1⟩
  case round =>
    clear hst1 hbox1
    rename_i wr
    obtain ⟨k, E, rfl, hk, rfl, hE1, hE, hEe, hstr⟩ := hrel
    by_cases hlt : k < (cst m).length
    · have hck := hstr.grp.nat k hlt
      have hltm : k < m.length := by rw [← cst_length m]; exact hlt
      have ho := hm.ath hltm
      have hn : Hid (Nat.lcm E (m.getD k 0) = expTo m (k + 1)) := by unfold Hid; rw [expTo_succ hltm, ← hEe.out]
      have hbd := expTo_bd hm (show k + 1 ≤ m.length by omega)
      rw [← hn.out] at hbd
      have hlc := hid (lcm_div (E := E) (o := m.getD k 0) (by omega))
      generalize m.getD k 0 = o at *
      have hgp : 1 ≤ gcdE E o := Nat.gcd_pos_of_pos_left _ (by omega)
      have hgl : gcdE E o ≤ o := Nat.gcd_le_right _ (by omega)
      have hlc2 : Hid (E / gcdE E o * o = Nat.lcm E o) := hlc.out
      have hd := Nat.div_le_self E (gcdE E o)
      have hbd1 : Hid (E / gcdE E o * o ≤ 24) := by unfold Hid; rw [hlc2.out]; exact hbd.2
      have hbd0 := hid hbd
      clear hlc hbd
      go_wp2_with (go_at_call 175; refine (gcdE_any _ _ _ (by omega) (by omega)).mono ?_; rintro e w2 ⟨rfl, hb2⟩; have hst2 := hstr.step hb2; clear hb2)
      generalize gcdE E o = q at *
      go_roundw
      case rel => exact ⟨k + 1, E / q * o, by go_num, by omega, val_i (by rw [wrap_div (by omega)]; exact wrap_mul (by have := hbd1.out; omega)), by rw [hlc2.out]; exact hbd0.out.1, by rw [hlc2.out]; exact hbd0.out.2, by unfold Hid; rw [hlc2.out]; exact hn.out, hst2⟩
      case measure => simp [intOf]; omega
    · have hend : Hid (expN m = E) := by unfold Hid; rw [hEe.out]; exact (expTo_end (by rw [← cst_length m]; omega)).symm
      go_wp2
      go_ret
      exact ⟨ret_i (by rw [hend.out]), hstr.below⟩
set_option maxHeartbeats 400000 in
theorem sExponentOf_yes (b off cap : Nat) (m : List Nat) (w : World) (hm : Ok m) (hg : GrpAt w b off (cst m)) :
    Calls Try.prog 182 #[.agg #[.slice (some ⟨b, off, none⟩) (cst m).length cap]] w fun e w' => e = .returned (.int .i64 (expN m : Nat)) ∧ Below w.heap.size w w' := by
  have hst := St.init cap 26 hg
  have hl : (cst m).length ≤ 3 := by rw [cst_length]; exact hm.len
  have hgr := hid (ok_grp hm)
  go_enter Try.func182, Try.ntmps182
  go_wp2_with fail
  refine (sIsGroup_any _ _ _ _ _ (by omega) hst.grp).mono ?_; rintro e w1 ⟨rfl, hb1⟩; rw [hgr.out]; have hst1 := hst.step hb1; have hbox1 := hst1.box
  clear hst hb1 hg
  go_wp2
  go_loop [3, 4] (fun n i => ∃ k E : Nat, i = .int .i64 k ∧ k ≤ (cst m).length ∧ n = .int .i64 E ∧ 1 ≤ E ∧ E ≤ 24 ∧ Hid (E = expTo m k)) (fun _ i => (cst m).length - (intOf i).toNat)
  case atStart => exact ⟨0, 1, rfl, by omega, rfl, by omega, by omega, rfl⟩
  case round =>
    obtain ⟨k, E, rfl, hk, rfl, hE1, hE, hEe⟩ := hrel
    by_cases hlt : k < (cst m).length
    · have hck := hst1.grp.nat k hlt
      have hltm : k < m.length := by rw [← cst_length m]; exact hlt
      have ho := hm.ath hltm
      have hn : Hid (Nat.lcm E (m.getD k 0) = expTo m (k + 1)) := by unfold Hid; rw [expTo_succ hltm, ← hEe.out]
      have hbd := expTo_bd hm (show k + 1 ≤ m.length by omega)
      rw [← hn.out] at hbd
      have hbd0 := hid hbd
      clear hbd
      generalize m.getD k 0 = o at *
      have hki : (k : Int) < ((cst m).length : Int) := by omega
      have hEo : E * o ≤ 24 * 24 := Nat.mul_le_mul hE ho.2
      go_wp2
      go_loop [5] (fun x => ∃ j X : Nat, x = .int .i64 X ∧ 1 ≤ j ∧ j ≤ o ∧ X ≤ E * o ∧ Hid (X = E * j) ∧ Hid (∀ i, 1 ≤ i → i < j → ¬ o ∣ E * i)) (fun x => E * o - (intOf x).toNat)
      case atStart => exact ⟨1, E, rfl, by omega, by omega, Nat.le_mul_of_pos_right _ (by omega), (Nat.mul_one E).symm, (fun i h1 h2 => by omega)⟩
      case round =>
        obtain ⟨j, X, rfl, hj1, hj, hX, hXe, hno⟩ := hrel
        by_cases hd : o ∣ X
        · have he : Hid (X = Nat.lcm E o) := by
            unfold Hid; rw [hXe.out]; exact lcm_first hE1 (by omega) hj1 (by rw [← hXe.out]; exact hd) hno.out
          have hz : ((X : Int) % (o : Int) != 0) = false := by
            have h1 := Nat.mod_eq_zero_of_dvd hd
            have h2 : ((X % o : Nat) : Int) = 0 := by rw [h1]; rfl
            rw [bne_eq_false_iff_eq, ← h2]; simp
          have hX1 : 1 ≤ X ∧ X ≤ 24 := by rw [he.out]; exact hbd0.out
          clear hd
          go_wp2
          go_round
          case rel => exact ⟨k + 1, X, by go_num, by omega, rfl, hX1.1, hX1.2, by unfold Hid; rw [he.out]; exact hn.out⟩
          case measure => simp [intOf]; omega
        · have hjl : j < o := by
            rcases Nat.lt_or_ge j o with h | h
            · exact h
            · exact (hd (by rw [hXe.out, show j = o from by omega]; exact Nat.dvd_mul_left _ _)).elim
          have hz : ((X : Int) % (o : Int) != 0) = true := by
            have h1 : X % o ≠ 0 := fun e => hd (Nat.dvd_of_mod_eq_zero e)
            rw [bne_iff_ne]; omega
          have hXe' : Hid (X + E = E * (j + 1)) := by unfold Hid; rw [hXe.out, Nat.mul_add, Nat.mul_one]
          have hXl : X + E ≤ E * o := by rw [hXe'.out]; exact Nat.mul_le_mul_left _ (by omega)
          have hno' : Hid (∀ i, 1 ≤ i → i < j + 1 → ¬ o ∣ E * i) := fun i h1 h2 => by
            by_cases e : i = j
            · rw [e, ← hXe.out]; exact hd
            · exact hno.out i h1 (by omega)
          clear hd
          go_wp2
          go_round
          case rel => exact ⟨j + 1, X + E, by go_num, by omega, by omega, hXl, hXe', hno'⟩
          case measure => simp [intOf]; omega
    · have hend : Hid (expN m = E) := by unfold Hid; rw [hEe.out]; exact (expTo_end (by rw [← cst_length m]; omega)).symm
      go_wp2
      go_ret
      exact ⟨ret_i (by rw [hend.out]), hst1.below⟩
end Go.Proofs.Ytpflnmcecnbilaa
