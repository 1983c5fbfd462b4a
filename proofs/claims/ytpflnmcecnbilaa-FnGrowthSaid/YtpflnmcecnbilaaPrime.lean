/-
  Contracts: the order of whatever list of orders; whether it is a prime.
-/
import Derived.Test.YtpflnmcecnbilaaGrp2
namespace Go.Proofs.Ytpflnmcecnbilaa
open Go.RowKit

def ordN (l : List Int) : Nat := if grp l = true then prodN (toN l) else 0
theorem ordN_yes {m : List Nat} (h : Ok m) : ordN (cst m) = prodN m := by unfold ordN; rw [if_pos (ok_grp h), toN_cst]
theorem ordN_no {l : List Int} (h : grp l = false) : ordN l = 0 := by unfold ordN; rw [if_neg (by simp [h])]
theorem ordN_le (l : List Int) : ordN l ≤ 24 := by
  by_cases h : grp l = true
  · obtain ⟨m, hm, rfl⟩ := grp_ok h
    rw [ordN_yes hm]; exact hm.ord
  · rw [ordN_no (by simpa using h)]; omega
theorem orderOf_any (b off cap : Nat) (l : List Int) (w : World) (hl : l.length ≤ 1099511627776) (hg : GrpAt w b off l) :
    Calls Try.prog 130 #[.agg #[.slice (some ⟨b, off, none⟩) l.length cap]] w fun e w' => e = .returned (.int .i64 (ordN l : Nat)) ∧ Below w.heap.size w w' := by
  by_cases h : grp l = true
  · obtain ⟨m, hm, rfl⟩ := grp_ok h
    rw [ordN_yes hm]; exact orderOf_yes _ _ _ _ _ hm hg
  · have hn : grp l = false := by simpa using h
    rw [ordN_no hn]; exact orderOf_no _ _ _ _ _ hl hg hn
theorem sOrderOf_any (b off cap : Nat) (l : List Int) (w : World) (hl : l.length ≤ 1099511627776) (hg : GrpAt w b off l) :
    Calls Try.prog 84 #[.agg #[.slice (some ⟨b, off, none⟩) l.length cap]] w fun e w' => e = .returned (.int .i64 (ordN l : Nat)) ∧ Below w.heap.size w w' := by
  by_cases h : grp l = true
  · obtain ⟨m, hm, rfl⟩ := grp_ok h
    rw [ordN_yes hm]; exact sOrderOf_yes _ _ _ _ _ hm hg
  · have hn : grp l = false := by simpa using h
    rw [ordN_no hn]; exact sOrderOf_no _ _ _ _ _ hl hg hn
def primN (n : Nat) : Bool := decide (1 < n) && (List.range n).all fun d => decide (d < 2) || decide (n % d ≠ 0)
theorem primN_no {n d : Nat} (h2 : 2 ≤ d) (hd : d < n) (h : n % d = 0) : primN n = false := by
  rw [Bool.eq_false_iff]; intro hc
  simp only [primN, Bool.and_eq_true, List.all_eq_true, List.mem_range, Bool.or_eq_true, decide_eq_true_eq] at hc
  rcases hc.2 d hd with h' | h'
  · omega
  · exact h' h
theorem primN_end {n d : Nat} (hd : n ≤ d) (h : ∀ j, 2 ≤ j → j < d → n % j ≠ 0) : primN n = decide (1 < n) := by
  have : ((List.range n).all fun d => decide (d < 2) || decide (n % d ≠ 0)) = true := by
    rw [List.all_eq_true]; intro j hj
    rw [List.mem_range] at hj
    by_cases h2 : j < 2
    · simp [h2]
    · have := h j (by omega) (by omega)
      simp [this]
  rw [primN, this, Bool.and_true]
set_option maxHeartbeats 400000 in
theorem isPrimeOrder_any (b off cap : Nat) (l : List Int) (w : World) (hl : l.length ≤ 1099511627776) (hg : GrpAt w b off l) :
    Calls Try.prog 51 #[.agg #[.slice (some ⟨b, off, none⟩) l.length cap]] w fun e w' => e = .returned (.bool (primN (ordN l))) ∧ Below w.heap.size w w' := by
  have hst := St.init cap 26 hg
  have hn := ordN_le l
  go_enter Try.func51, Try.ntmps51
  go_wp2_with fail
  refine (orderOf_any _ _ _ _ _ hl hst.grp).mono ?_; rintro e w1 ⟨rfl, hb1⟩; have hst1 := hst.step hb1
  go_wp2
  go_loop [4] (fun d => ∃ D : Nat, d = .int .i64 D ∧ 2 ≤ D ∧ D ≤ 24 + 2 ∧ Hid (∀ j, 2 ≤ j → j < D → ordN l % j ≠ 0)) (fun d => 24 + 2 - (intOf d).toNat)
  case atStart => exact ⟨2, rfl, by omega, by omega, fun j _ _ => by omega⟩
  case round =>
    obtain ⟨D, rfl, h2, hD, hall⟩ := hrel
    by_cases hlt : D < ordN l
    · by_cases hz : ordN l % D = 0
      · have hz' : (((ordN l : Nat) : Int) % (D : Int) == 0) = true := by rw [← Int.natCast_emod, hz]; rfl
        have hf := hid (primN_no h2 hlt hz)
        clear hz
        go_wp2
        go_ret
        exact ⟨ret_b (by rw [hf.out]), hst1.below⟩
      · have hz' : (((ordN l : Nat) : Int) % (D : Int) == 0) = false := by rw [← Int.natCast_emod, beq_eq_false_iff_ne]; omega
        have hall' : Hid (∀ j, 2 ≤ j → j < D + 1 → ordN l % j ≠ 0) := fun j hj1 hj2 => by
          by_cases e : j = D
          · rw [e]; exact hz
          · exact hall.out j hj1 (by omega)
        clear hz
        go_wp2
        go_round
        case rel => exact ⟨D + 1, by go_num, by omega, by omega, hall'⟩
        case measure => simp [intOf]; omega
    · have he := hid (primN_end (by omega) hall.out)
      go_wp2
      go_ret
      exact ⟨ret_b (by rw [he.out, Bool.eq_iff_iff]; simp only [decide_eq_true_eq]; omega), hst1.below⟩
set_option maxHeartbeats 400000 in
theorem sIsPrimeOrder_any (b off cap : Nat) (l : List Int) (w : World) (hl : l.length ≤ 1099511627776) (hg : GrpAt w b off l) :
    Calls Try.prog 52 #[.agg #[.slice (some ⟨b, off, none⟩) l.length cap]] w fun e w' => e = .returned (.bool (primN (ordN l))) ∧ Below w.heap.size w w' := by
  have hst := St.init cap 26 hg
  have hn := ordN_le l
  go_enter Try.func52, Try.ntmps52
  go_wp2_with fail
  refine (sOrderOf_any _ _ _ _ _ hl hst.grp).mono ?_; rintro e w1 ⟨rfl, hb1⟩; have hst1 := hst.step hb1
  go_wp2
  go_loop [4] (fun d => ∃ D : Nat, d = .int .i64 D ∧ 2 ≤ D ∧ D ≤ 24 + 2 ∧ Hid (∀ j, 2 ≤ j → j < D → ordN l % j ≠ 0)) (fun d => 24 + 2 - (intOf d).toNat)
  case atStart => exact ⟨2, rfl, by omega, by omega, fun j _ _ => by omega⟩
  case round =>
    obtain ⟨D, rfl, h2, hD, hall⟩ := hrel
    by_cases hlt : D < ordN l
    · by_cases hz : ordN l % D = 0
      · have hz' : (((ordN l : Nat) : Int) % (D : Int) == 0) = true := by rw [← Int.natCast_emod, hz]; rfl
        have hf := hid (primN_no h2 hlt hz)
        clear hz
        go_wp2
        go_ret
        exact ⟨ret_b (by rw [hf.out]), hst1.below⟩
      · have hz' : (((ordN l : Nat) : Int) % (D : Int) == 0) = false := by rw [← Int.natCast_emod, beq_eq_false_iff_ne]; omega
        have hall' : Hid (∀ j, 2 ≤ j → j < D + 1 → ordN l % j ≠ 0) := fun j hj1 hj2 => by
          by_cases e : j = D
          · rw [e]; exact hz
          · exact hall.out j hj1 (by omega)
        clear hz
        go_wp2
        go_round
        case rel => exact ⟨D + 1, by go_num, by omega, by omega, hall'⟩
        case measure => simp [intOf]; omega
    · have he := hid (primN_end (by omega) hall.out)
      go_wp2
      go_ret
      exact ⟨ret_b (by rw [he.out, Bool.eq_iff_iff]; simp only [decide_eq_true_eq]; omega), hst1.below⟩
end Go.Proofs.Ytpflnmcecnbilaa
