/-
  Contracts: the order of an element.
-/
import Derived.Test.YtpflnmcecnbilaaAdd
import Derived.Test.YtpflnmcecnbilaaGrp2
import Derived.Test.YtpflnmcecnbilaaCard
namespace Go.Proofs.Ytpflnmcecnbilaa
open Go.RowKit

/-- an element taken k times -/
def mulN : List Nat → Nat → Nat → Nat
  | [], _, _ => 0
  | o :: r, k, x => (k * (x % o)) % o + o * mulN r k (x / o)
theorem mulN_zero : ∀ (m : List Nat) (x : Nat), mulN m 0 x = 0
  | [], _ => rfl
  | o :: r, x => by simp [mulN, mulN_zero r]
theorem mulN_succ : ∀ {m : List Nat}, (∀ o ∈ m, 2 ≤ o) → ∀ (k x : Nat), addN m (mulN m k x) x = mulN m (k + 1) x
  | [], _, _, _ => rfl
  | o :: r, h, k, x => by
    have ho : 2 ≤ o := h o (by simp)
    have hlt : k * (x % o) % o < o := Nat.mod_lt _ (by omega)
    have e1 : (k * (x % o) % o + o * mulN r k (x / o)) % o = k * (x % o) % o := by rw [Nat.add_mul_mod_self_left, Nat.mod_mod]
    have e2 : (k * (x % o) % o + o * mulN r k (x / o)) / o = mulN r k (x / o) := by rw [Nat.add_mul_div_left _ _ (by omega), Nat.div_eq_of_lt hlt, Nat.zero_add]
    simp only [addN, mulN]
    rw [e1, e2, mulN_succ (fun p hp => h p (by simp [hp])) k (x / o), Nat.add_mul, Nat.one_mul, Nat.add_mod (k * (x % o)) (x % o) o, Nat.mod_mod]
theorem mulN_dvd : ∀ {m : List Nat} {k : Nat}, prodN m ∣ k → ∀ x, mulN m k x = 0
  | [], _, _, _ => rfl
  | o :: r, k, h, x => by
    have h1 : o ∣ k := Nat.dvd_trans (Nat.dvd_mul_right o (prodN r)) h
    have h2 : prodN r ∣ k := Nat.dvd_trans (Nat.dvd_mul_left (prodN r) o) h
    simp only [mulN]
    rw [mulN_dvd h2, Nat.mod_eq_zero_of_dvd (Nat.dvd_trans h1 (Nat.dvd_mul_right k _)), Nat.mul_zero]
theorem mulN_lt {m : List Nat} (hm : Ok m) (k x : Nat) : mulN m k x < prodN m := by
  cases k with
  | zero => rw [mulN_zero]; exact hm.pos
  | succ k => rw [← mulN_succ hm.ge2]; exact hm.add_lt _ _
theorem mulN_one {m : List Nat} (hm : Ok m) {x : Nat} (hx : x < prodN m) : mulN m 1 x = x := by
  rw [← mulN_succ hm.ge2, mulN_zero]; exact hm.zero_add hx
def ordE (m : List Nat) (x : Nat) : Nat := ((List.range (prodN m)).find? fun j => mulN m (j + 1) x == 0).getD 0 + 1
theorem ordE_eq {m : List Nat} {x n : Nat} (h1 : 1 ≤ n) (hn : n ≤ prodN m) (h : ∀ j, 1 ≤ j → j < n → mulN m j x ≠ 0) (h0 : mulN m n x = 0) : ordE m x = n := by
  have e : (List.range (prodN m)).find? (fun j => mulN m (j + 1) x == 0) = some (n - 1) := by
    rw [List.find?_range_eq_some]
    refine ⟨by rw [show n - 1 + 1 = n from by omega, h0]; rfl, by rw [List.mem_range]; omega, fun j hj => ?_⟩
    have := h (j + 1) (by omega) (by omega)
    simp [this]
  unfold ordE; rw [e]; simp; omega
set_option maxHeartbeats 400000 in
theorem orderOfElement_yes (b off cap : Nat) (m : List Nat) (x : Nat) (w : World) (hm : Ok m) (hx : x < prodN m) (hg : GrpAt w b off (cst m)) :
    Calls Try.prog 162 #[.agg #[.slice (some ⟨b, off, none⟩) (cst m).length cap], .int .i64 x] w fun e w' => e = .returned (.int .i64 (ordE m x : Nat)) ∧ Below w.heap.size w w' := by
  have hst := St.init cap 26 hg
  have hl : (cst m).length ≤ 1099511627776 := by rw [cst_length]; have := hm.len; omega
  have hord := hm.ord
  have hel : isEl (cst m) (x : Int) = true := isEl_iff.2 ⟨m, x, hm, rfl, rfl, hx⟩
  go_enter Try.func162, Try.ntmps162
  go_wp2_with fail
  refine (has_any _ _ _ _ _ _ hl hst.grp).mono ?_; rintro e w1 ⟨rfl, hb1⟩; rw [hel]; have hst1 := hst.step hb1
  clear hst hb1 hel
  go_wp2
  go_loopw [5, 6] (fun n y wr => ∃ k Y : Nat, n = .int .i64 k ∧ 1 ≤ k ∧ k ≤ prodN m ∧ y = .int .i64 Y ∧ Y < prodN m ∧ Hid (Y = mulN m k x) ∧ Hid (∀ j, 1 ≤ j → j < k → mulN m j x ≠ 0) ∧ St w b off cap (cst m) wr) (fun n _ _ => prodN m - (intOf n).toNat)
  case atStart => exact ⟨1, x, rfl, by omega, hm.pos, rfl, hx, (mulN_one hm hx).symm, (fun j h1 h2 => by omega), hst1⟩
  case round =>
    clear hst1
    rename_i wr
    obtain ⟨k, Y, rfl, hk1, hk, rfl, hY, hYe, hno, hstr⟩ := hrel
    have hboxr := hstr.box
    by_cases h0 : Y = 0
    · have he : Hid (ordE m x = k) := ordE_eq hk1 hk hno.out (by rw [← hYe.out]; exact h0)
      subst h0
      go_wp2
      go_ret
      exact ⟨ret_i (by rw [he.out]), hstr.below⟩
    · have hlt : k < prodN m := by
        rcases Nat.lt_or_ge k (prodN m) with h | h
        · exact h
        · exact (h0 (by rw [hYe.out, show k = prodN m from by omega, mulN_dvd (Nat.dvd_refl _)])).elim
      have hYi : ((Y : Int) != 0) = true := by rw [bne_iff_ne]; omega
      have hno' : Hid (∀ j, 1 ≤ j → j < k + 1 → mulN m j x ≠ 0) := fun j h1 h2 => by
        by_cases e : j = k
        · rw [e, ← hYe.out]; exact h0
        · exact hno.out j h1 (by omega)
      have hY' := hm.add_lt Y x
      have hYe' : Hid (addN m Y x = mulN m (k + 1) x) := by unfold Hid; rw [hYe.out, mulN_succ hm.ge2]
      clear h0
      go_wp2_with fail
      refine (add_any _ _ _ _ _ _ _ hm (by omega) (by omega) hstr.grp).mono ?_; rintro e w2 ⟨rfl, hb2⟩; have hst2 := hstr.step hb2
      clear hstr hb2
      go_wp2
      go_roundw
      case rel => exact ⟨k + 1, _, by go_num, by omega, by omega, rfl, hY', hYe', hno', hst2⟩
      case measure => simp [intOf]; omega
set_option maxHeartbeats 400000 in
theorem sOrderOfElement_yes (b off cap : Nat) (m : List Nat) (x : Nat) (w : World) (hm : Ok m) (hx : x < prodN m) (hg : GrpAt w b off (cst m)) :
    Calls Try.prog 163 #[.agg #[.slice (some ⟨b, off, none⟩) (cst m).length cap], .int .i64 x] w fun e w' => e = .returned (.int .i64 (ordE m x : Nat)) ∧ Below w.heap.size w w' := by
  have hst := St.init cap 26 hg
  have hl : (cst m).length ≤ 1099511627776 := by rw [cst_length]; have := hm.len; omega
  have hord := hm.ord
  have hel : isEl (cst m) (x : Int) = true := isEl_iff.2 ⟨m, x, hm, rfl, rfl, hx⟩
  go_enter Try.func163, Try.ntmps163
  go_wp2_with fail
  refine (l2Is_any _ _ _ _ _ _ hl hst.grp).mono ?_; rintro e w1 ⟨rfl, hb1⟩; rw [hel]; have hst1 := hst.step hb1
  clear hst hb1 hel
  go_wp2
  go_loopw [5, 6] (fun n y wr => ∃ k Y : Nat, n = .int .i64 k ∧ 1 ≤ k ∧ k ≤ prodN m ∧ y = .int .i64 Y ∧ Y < prodN m ∧ Hid (Y = mulN m k x) ∧ Hid (∀ j, 1 ≤ j → j < k → mulN m j x ≠ 0) ∧ St w b off cap (cst m) wr) (fun n _ _ => prodN m - (intOf n).toNat)
  case atStart => exact ⟨1, x, rfl, by omega, hm.pos, rfl, hx, (mulN_one hm hx).symm, (fun j h1 h2 => by omega), hst1⟩
  case round =>
    clear hst1
    rename_i wr
    obtain ⟨k, Y, rfl, hk1, hk, rfl, hY, hYe, hno, hstr⟩ := hrel
    have hboxr := hstr.box
    by_cases h0 : Y = 0
    · have he : Hid (ordE m x = k) := ordE_eq hk1 hk hno.out (by rw [← hYe.out]; exact h0)
      subst h0
      go_wp2
      go_ret
      exact ⟨ret_i (by rw [he.out]), hstr.below⟩
    · have hlt : k < prodN m := by
        rcases Nat.lt_or_ge k (prodN m) with h | h
        · exact h
        · exact (h0 (by rw [hYe.out, show k = prodN m from by omega, mulN_dvd (Nat.dvd_refl _)])).elim
      have hYi : ((Y : Int) != 0) = true := by rw [bne_iff_ne]; omega
      have hno' : Hid (∀ j, 1 ≤ j → j < k + 1 → mulN m j x ≠ 0) := fun j h1 h2 => by
        by_cases e : j = k
        · rw [e, ← hYe.out]; exact h0
        · exact hno.out j h1 (by omega)
      have hY' := hm.add_lt Y x
      have hYe' : Hid (addN m Y x = mulN m (k + 1) x) := by unfold Hid; rw [hYe.out, mulN_succ hm.ge2]
      clear h0
      go_wp2_with fail
      refine (l2Add_any _ _ _ _ _ _ _ hm (by omega) (by omega) hstr.grp).mono ?_; rintro e w2 ⟨rfl, hb2⟩; have hst2 := hstr.step hb2
      clear hstr hb2
      go_wp2
      go_roundw
      case rel => exact ⟨k + 1, _, by go_num, by omega, by omega, rfl, hY', hYe', hno', hst2⟩
      case measure => simp [intOf]; omega
end Go.Proofs.Ytpflnmcecnbilaa
