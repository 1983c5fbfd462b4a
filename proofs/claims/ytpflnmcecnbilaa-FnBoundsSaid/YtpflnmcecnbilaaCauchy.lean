/-
  Contracts: the bound of Cauchy and Davenport.
-/
import Derived.Test.YtpflnmcecnbilaaFull
import Derived.Test.YtpflnmcecnbilaaPrime
import Derived.Test.YtpflnmcecnbilaaBits
namespace Go.Proofs.Ytpflnmcecnbilaa
open Go.RowKit

/-- the loop that looks for the least divisor from above: d is tried next, p was found last -/
def leastD (n : Nat) : Nat → Nat → Nat
  | 0, p => p
  | d + 1, p => if d = 0 then p else leastD n d (if n % (d + 1) = 0 then d + 1 else p)
theorem leastD_stop {n d p : Nat} (h : d < 2) : leastD n d p = p := by
  match d, h with
  | 0, _ => rfl
  | 1, _ => simp [leastD]
theorem leastD_step {n d p : Nat} (h : 2 ≤ d) : leastD n d p = leastD n (d - 1) (if n % d = 0 then d else p) := by
  match d, h with
  | d + 1, h => rw [leastD, if_neg (by omega)]; rfl
theorem leastD_start {n : Nat} (hn : 1 ≤ n) : leastD n n n = leastD n n 1 := by
  by_cases h : n = 1
  · subst h; rfl
  · rw [leastD_step (d := n) (p := n) (by omega), leastD_step (d := n) (p := 1) (by omega)]; simp
theorem leastD_le {n d p B : Nat} (hp : p ≤ B) (hd : d ≤ B) : leastD n d p ≤ B := by
  induction d generalizing p with
  | zero => exact hp
  | succ d ih =>
    rw [leastD]; split
    · exact hp
    · apply ih
      · split <;> omega
      · omega
def cauchyF (l : List Int) (a b : Int) : Int := if full l a b = true then min ((card a.toNat : Int) + card b.toNat - 1) (leastD (ordN l) (ordN l) 1 : Nat) else -1
theorem full_bd {m : List Nat} (hm : Ok m) {A : Nat} (h : A < 2 ^ prodN m) : A < 16777216 := Nat.lt_of_lt_of_le h hm.pow_le
set_option maxHeartbeats 1000000 in
theorem cauchyBound_any (b off cap : Nat) (l : List Int) (x y : Int) (w : World) (hl : l.length ≤ 1099511627776) (hg : GrpAt w b off l) :
    Calls Try.prog 79 #[.agg #[.slice (some ⟨b, off, none⟩) l.length cap], .int .i64 x, .int .i64 y] w fun e w' => e = .returned (.int .i64 (cauchyF l x y)) ∧ Below w.heap.size w w' := by
  have hst := St.init cap 26 hg
  by_cases hf : full l x y = true
  · have hr : Hid (cauchyF l x y = min ((card x.toNat : Int) + card y.toNat - 1) (leastD (ordN l) (ordN l) 1 : Nat)) := by unfold Hid cauchyF; rw [if_pos hf]
    have hf0 := full_iff.1 hf
    obtain ⟨m, A, B, hm, rfl, rfl, rfl, hA, hB, _, _⟩ := hf0
    rw [Int.toNat_natCast, Int.toNat_natCast, ordN_yes hm] at hr
    have hA' := full_bd hm hA
    have hB' := full_bd hm hB
    have cA := card_le A
    have cB := card_le B
    have hn := hm.ord
    have hp := hm.pos
    clear hA hB
    go_enter Try.func79, Try.ntmps79
    go_wp2_with fail
    refine (areFull_any _ _ _ _ _ _ _ hl hst.grp).mono ?_; rintro e w1 ⟨rfl, hb1⟩; have hst1 := hst.step hb1; have hbox1 := hst1.box
    go_wp2_with fail
    refine (orderOf_yes _ _ _ _ _ hm hst1.grp).mono ?_; rintro e w2 ⟨rfl, hb2⟩; have hst2 := hst1.step hb2
    clear hst hst1 hb1 hb2 hbox1
    go_wp2
    go_loop [8, 9] (fun p d => ∃ P D : Nat, p = .int .i64 P ∧ d = .int .i64 D ∧ D ≤ 24 ∧ P ≤ 24 ∧ Hid (leastD (prodN m) D P = leastD (prodN m) (prodN m) 1)) (fun _ d => (intOf d).toNat)
    case atStart => exact ⟨1, prodN m, rfl, rfl, by omega, by omega, rfl⟩
    case round =>
      obtain ⟨P, D, rfl, rfl, hD, hP, hrel⟩ := hrel
      by_cases hd : 1 < D
      · have hstep := leastD_step (n := prodN m) (d := D) (p := P) (by omega)
        by_cases hz : prodN m % D = 0
        · have hz' : (((prodN m : Nat) : Int) % (D : Int) == 0) = true := by rw [← Int.natCast_emod, hz]; rfl
          have hr' : Hid (leastD (prodN m) (D - 1) D = leastD (prodN m) (prodN m) 1) := by unfold Hid; rw [← hrel.out, hstep, if_pos hz]
          clear hz hstep
          go_wp2
          go_round
          case rel => exact ⟨D, D - 1, rfl, val_i (by omega), by omega, by omega, hr'⟩
          case measure => simp [intOf]; omega
        · have hz' : (((prodN m : Nat) : Int) % (D : Int) == 0) = false := by rw [← Int.natCast_emod, beq_eq_false_iff_ne]; omega
          have hr' : Hid (leastD (prodN m) (D - 1) P = leastD (prodN m) (prodN m) 1) := by unfold Hid; rw [← hrel.out, hstep, if_neg hz]
          clear hz hstep
          go_wp2
          go_round
          case rel => exact ⟨P, D - 1, rfl, val_i (by omega), by omega, by omega, hr'⟩
          case measure => simp [intOf]; omega
      · have he : Hid (P = leastD (prodN m) (prodN m) 1) := by have := hrel.out; rw [leastD_stop (by omega)] at this; exact this
        go_wp2_with fail
        refine (bits_any _ _ hA').mono ?_; rintro e w3 ⟨rfl, rfl⟩
        go_wp2_with fail
        refine (bits_any _ _ hB').mono ?_; rintro e w3 ⟨rfl, rfl⟩
        go_wp2
        all_goals (go_ret; exact ⟨ret_i (by rw [hr.out, ← he.out]; omega), hst2.below⟩)
  · have hf' : full l x y = false := by simpa using hf
    have hr : Hid (cauchyF l x y = -1) := by unfold Hid cauchyF; rw [if_neg hf]
    clear hf
    go_enter Try.func79, Try.ntmps79
    go_wp2_with fail
    refine (areFull_any _ _ _ _ _ _ _ hl hst.grp).mono ?_; rintro e w1 ⟨rfl, hb1⟩; have hst1 := hst.step hb1
    go_wp2
    go_ret
    exact ⟨ret_i (by rw [hr.out]), hst1.below⟩
set_option maxHeartbeats 1000000 in
theorem sCauchyBound_any (b off cap : Nat) (l : List Int) (x y : Int) (w : World) (hl : l.length ≤ 1099511627776) (hg : GrpAt w b off l) :
    Calls Try.prog 80 #[.agg #[.slice (some ⟨b, off, none⟩) l.length cap], .int .i64 x, .int .i64 y] w fun e w' => e = .returned (.int .i64 (cauchyF l x y)) ∧ Below w.heap.size w w' := by
  have hst := St.init cap 26 hg
  by_cases hf : full l x y = true
  · have hr : Hid (cauchyF l x y = min ((card x.toNat : Int) + card y.toNat - 1) (leastD (ordN l) (ordN l) 1 : Nat)) := by unfold Hid cauchyF; rw [if_pos hf]
    obtain ⟨y1, y2, y3, y4⟩ := full_yes hf
    have hf0 := full_iff.1 hf
    obtain ⟨m, A, B, hm, rfl, rfl, rfl, hA, hB, _, _⟩ := hf0
    rw [Int.toNat_natCast, Int.toNat_natCast, ordN_yes hm] at hr
    have hA' := full_bd hm hA
    have hB' := full_bd hm hB
    have cA := card_le A
    have cB := card_le B
    have hn := hm.ord
    have hp := hm.pos
    clear hA hB
    go_enter Try.func80, Try.ntmps80
    go_wp2_with (first | (go_at_call 64; refine (sIsSet_any _ _ _ _ _ _ hl (St.grp (by assumption))).mono ?_; rintro e wN ⟨rfl, hbN⟩; have hstN := St.step (by assumption) hbN; have hboxN := hstN.box; clear hbN) | (go_at_call 120; refine (l2Order_any _ _ _ _ _ hm (St.grp (by assumption))).mono ?_; rintro e wN ⟨rfl, hbN⟩; have hstN := St.step (by assumption) hbN; have hboxN := hstN.box; clear hbN))
    have hst2 : St w b off cap (cst m) wN := by assumption
    clear hst hboxN
    go_loopw [7, 8] (fun p d wr => ∃ P D : Nat, p = .int .i64 P ∧ d = .int .i64 D ∧ D ≤ 24 ∧ P ≤ 24 ∧ Hid (leastD (prodN m) D P = leastD (prodN m) (prodN m) 1) ∧ St w b off cap (cst m) wr) (fun _ d _ => (intOf d).toNat)
    case atStart => exact ⟨prodN m, prodN m, rfl, rfl, by omega, by omega, leastD_start hp, hst2⟩
    case round =>
      rename_i wr
      obtain ⟨P, D, rfl, rfl, hD, hP, hrel, hstr⟩ := hrel
      have hboxr := hstr.box
      by_cases hd : 2 ≤ D
      · have hstep := leastD_step (n := prodN m) (d := D) (p := P) (by omega)
        by_cases hz : prodN m % D = 0
        · have hz' : (((prodN m : Nat) : Int) % (D : Int) == 0) = true := by rw [← Int.natCast_emod, hz]; rfl
          have hr' : Hid (leastD (prodN m) (D - 1) D = leastD (prodN m) (prodN m) 1) := by unfold Hid; rw [← hrel.out, hstep, if_pos hz]
          clear hz hstep
          go_wp2_with (first | (go_at_call 120; refine (l2Order_any _ _ _ _ _ hm (St.grp (by assumption))).mono ?_; rintro e wN ⟨rfl, hbN⟩; have hstN := St.step (by assumption) hbN; have hboxN := hstN.box; clear hbN))
          go_roundw
          case rel => exact ⟨D, D - 1, rfl, val_i (by omega), by omega, by omega, hr', by assumption⟩
          case measure => simp [intOf]; omega
        · have hz' : (((prodN m : Nat) : Int) % (D : Int) == 0) = false := by rw [← Int.natCast_emod, beq_eq_false_iff_ne]; omega
          have hr' : Hid (leastD (prodN m) (D - 1) P = leastD (prodN m) (prodN m) 1) := by unfold Hid; rw [← hrel.out, hstep, if_neg hz]
          clear hz hstep
          go_wp2_with (first | (go_at_call 120; refine (l2Order_any _ _ _ _ _ hm (St.grp (by assumption))).mono ?_; rintro e wN ⟨rfl, hbN⟩; have hstN := St.step (by assumption) hbN; have hboxN := hstN.box; clear hbN))
          go_roundw
          case rel => exact ⟨P, D - 1, rfl, val_i (by omega), by omega, by omega, hr', by assumption⟩
          case measure => simp [intOf]; omega
      · have he : Hid (P = leastD (prodN m) (prodN m) 1) := by have := hrel.out; rw [leastD_stop (by omega)] at this; exact this
        go_wp2_with fail
        refine (l3Bits_any _ _ hA').mono ?_; rintro e w3 ⟨rfl, rfl⟩
        go_wp2_with fail
        refine (l3Bits_any _ _ hB').mono ?_; rintro e w3 ⟨rfl, rfl⟩
        go_wp2
        all_goals (go_ret; exact ⟨ret_i (by rw [hr.out, ← he.out]; omega), hstr.below⟩)
  · have hf' : full l x y = false := by simpa using hf
    have hr : Hid (cauchyF l x y = -1) := by unfold Hid cauchyF; rw [if_neg hf]
    clear hf
    rcases full_no hf' with h1 | ⟨h1, h2⟩ | ⟨h1, h2, h3⟩ | ⟨h1, h2, h3, h4⟩
    all_goals
      go_enter Try.func80, Try.ntmps80
      go_wp2_with (first | (go_at_call 64; refine (sIsSet_any _ _ _ _ _ _ hl (St.grp (by assumption))).mono ?_; rintro e wN ⟨rfl, hbN⟩; have hstN := St.step (by assumption) hbN; have hboxN := hstN.box; clear hbN))
      go_ret
      exact ⟨ret_i (by rw [hr.out]), St.below (by assumption)⟩
end Go.Proofs.Ytpflnmcecnbilaa
