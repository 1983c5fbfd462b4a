/-
  Plain laws: what FnRatios asks of the part with the least ratio, all together.
-/
import Derived.Test.YtpflnmcecnbilaaFRat
import Derived.Test.YtpflnmcecnbilaaLeast3
import Derived.Test.YtpflnmcecnbilaaLaw5
namespace Go.Proofs.Ytpflnmcecnbilaa
open Go.RowKit

theorem rat_spec {m : List Nat} (hm : Ok m) {X B : Nat} (hX : X < 2 ^ prodN m) (h0 : X ≠ 0) :
    ∃ p q d : Nat, ratA m X B = (p : Int) ∧ ratB m X B = (q : Int) ∧ card (sumN m X B) = p * d ∧ card X = q * d ∧ 1 ≤ d ∧ 1 ≤ q ∧ q ≤ 24 ∧ p ≤ 24 := by
  have hM : 0 < card X := ne_zero_card (hm.lt24 hX) h0
  have hd := gcdN_pos (x := card (sumN m X B)) hM
  have h1 : card (sumN m X B) / gcdN (card (sumN m X B)) (card X) * gcdN (card (sumN m X B)) (card X) = card (sumN m X B) := Nat.div_mul_cancel (Nat.gcd_dvd_left _ _)
  have h2 : card X / gcdN (card (sumN m X B)) (card X) * gcdN (card (sumN m X B)) (card X) = card X := Nat.div_mul_cancel (Nat.gcd_dvd_right _ _)
  have hn := card_le (sumN m X B)
  have hx := card_le X
  refine ⟨_, _, _, rfl, rfl, h1.symm, h2.symm, hd, ?_, Nat.le_trans (Nat.div_le_self _ _) hx, Nat.le_trans (Nat.div_le_self _ _) hn⟩
  rcases Nat.eq_zero_or_pos (card X / gcdN (card (sumN m X B)) (card X)) with h | h
  · rw [h] at h2; omega
  · exact h
theorem cmpF_le {p q r s : Nat} (hp : p ≤ 24) (hq1 : 1 ≤ q) (hq : q ≤ 24) (hr : r ≤ 24) (hs1 : 1 ≤ s) (hs : s ≤ 24) (h : p * s ≤ r * q) : cmpF (p : Int) (q : Int) (r : Int) (s : Int) ≤ 0 := by
  have hg : cmpGood (p : Int) (q : Int) (r : Int) (s : Int) := by unfold cmpGood; omega
  have a1 : p * s ≤ 24 * 24 := Nat.mul_le_mul hp hs
  have a2 : r * q ≤ 24 * 24 := Nat.mul_le_mul hr hq
  have e1 : (p : Int) * s = ((p * s : Nat) : Int) := by simp
  have e2 : (r : Int) * q = ((r * q : Nat) : Int) := by simp
  unfold cmpF
  rw [if_pos hg, e1, e2, IntWalk.wrap64_in _ (by omega), IntWalk.wrap64_in _ (by omega)]
  generalize p * s = u at *
  generalize r * q = v at *
  split
  · omega
  · rw [if_neg (by omega)]; omega
theorem mul_cancel4 {p q r s d e : Nat} (hd : 1 ≤ d) (he : 1 ≤ e) (h : p * d * (s * e) ≤ r * e * (q * d)) : p * s ≤ r * q := by
  have e1 : p * d * (s * e) = p * s * (d * e) := by rw [Nat.mul_mul_mul_comm]
  have e2 : r * e * (q * d) = r * q * (d * e) := by rw [Nat.mul_mul_mul_comm, Nat.mul_comm e d]
  rw [e1, e2] at h
  exact Nat.le_of_mul_le_mul_right h (Nat.mul_pos hd he)
theorem ratios_all {l : List Int} {x1 x2 : Int} (h : lrOk l x1 x2 = true) : ∃ (Y p q r s P : Nat) (L : List Nat), lrF l x1 x2 = (Y : Int) ∧ Y < 16777216 ∧
    ratioA l (Y : Int) x2 = (p : Int) ∧ ratioB l (Y : Int) x2 = (q : Int) ∧ ratioA l x1 x2 = (r : Int) ∧ ratioB l x1 x2 = (s : Int) ∧ cmpF p q r s ≤ 0 ∧ ilF l x1 x2 (Y : Int) = true ∧
    (∀ c : Nat, c < P → 0 ≤ petF l (Y : Int) x2 (c : Int)) ∧ 0 ≤ petF l (Y : Int) x2 x2 ∧
    iterF l (Y : Int) x2 3 = cst L ∧ L.length = 4 ∧ (∀ i, i + 1 < 4 → L.getD (i + 1) 0 * q ≤ L.getD i 0 * p) ∧ (∀ i, L.getD i 0 ≤ 24) ∧ p ≤ 24 ∧ q ≤ 24 ∧ 1 ≤ P ∧ P ≤ 16777216 ∧ fullF l = ((P - 1 : Nat) : Int) := by
  obtain ⟨m, A, B, hm, rfl, rfl, rfl, hA, hB, hA0, hB0⟩ := full_iff.1 (lrOk_yes h).1
  obtain ⟨hY, hY0, hYA⟩ := least_lt hm (B := B) hA hA0
  obtain ⟨hpY, _⟩ := leastN_spec (m := m) (B := B) (Nat.lt_of_lt_of_le hA hm.pow_le) hA0
  have hmin := least_min hm (B := B) hA hA0
  have hit := iter_petridis hm (B := B) hA hA0
  have hpet := fun C hC => petGap_least hm (A := A) (B := B) (C := C) hA hA0 hC
  have hlr := lrF_yes h
  have hil : ilF (cst m) A B ((leastN m A B : Nat) : Int) = true := by
    rw [ilF_yes h (ilP_iff.2 ⟨by have := hpY.1; omega, by rw [Int.toNat_natCast]; exact hpY.2⟩)]
    simp [ilN]
  generalize leastN m A B = Y at *
  obtain ⟨p, q, d, hp, hq, e1, e2, hd, hq1, hq24, hp24⟩ := rat_spec hm (B := B) hY hY0
  obtain ⟨r, s, e, hr, hs, e3, e4, he, hs1, hs24, hr24⟩ := rat_spec hm (B := B) hA hA0
  have f1 : full (cst m) Y B = true := full_of hm hY hB hY0 hB0
  have f2 : full (cst m) A B = true := full_of hm hA hB hA0 hB0
  have t1 : ∀ c : Nat, c < 2 ^ prodN m → three (cst m) Y B c = true := fun c hc => three_iff.2 ⟨m, Y, B, c, hm, rfl, rfl, rfl, rfl, hY, hB, hc⟩
  have hitok : itOk (cst m) (Y : Int) (B : Int) 3 = true := by
    unfold itOk
    rw [two_iff.2 ⟨m, Y, B, hm, rfl, rfl, rfl, hY, hB⟩, inB_yes (by omega) (by omega)]; rfl
  have gL : ∀ i, i < 4 → (iterTo m Y B 4).getD i 0 = card (iterN m Y B i) := fun i hi => by
    simp [iterTo, List.getD_eq_getElem?_getD, List.getElem?_range hi]
  refine ⟨Y, p, q, r, s, 2 ^ prodN m, iterTo m Y B 4, hlr, hm.lt24 hY, by rw [(ratio_yes f1).1, hp], by rw [(ratio_yes f1).2, hq], by rw [(ratio_yes f2).1, hr], by rw [(ratio_yes f2).2, hs], ?_, hil, fun c hc => ?_, ?_, ?_, by simp [iterTo], fun i hi => ?_, fun i => ?_, hp24, hq24, Nat.one_le_two_pow, hm.pow_le, ?_⟩
  · refine cmpF_le hp24 hq1 hq24 hr24 hs1 hs24 ?_
    have h1 := hmin A hA0 (fun x hx => hx) hA
    rw [e1, e2, e3, e4] at h1
    exact mul_cancel4 hd he h1
  · rw [petF_yes (t1 c hc)]; exact hpet c hc
  · rw [petF_yes (t1 B hB)]; exact hpet B hB
  · exact iterF_yes (N := 3) hitok
  · rw [gL (i + 1) hi, gL i (by omega)]
    have h1 := hit i
    rw [e1, e2] at h1
    have h2 : card (iterN m Y B (i + 1)) * q * d ≤ card (iterN m Y B i) * p * d := by
      rw [Nat.mul_assoc, Nat.mul_assoc, Nat.mul_comm (card (iterN m Y B i))]; exact h1
    exact Nat.le_of_mul_le_mul_right h2 hd
  · rcases Nat.lt_or_ge i 4 with h1 | h1
    · rw [gL i h1]; exact card_le _
    · rw [List.getD_eq_getElem?_getD, List.getElem?_eq_none (by simp [iterTo]; omega)]; simp
  · rw [fullF_yes hm, pw_eq]
end Go.Proofs.Ytpflnmcecnbilaa
