/-
  Contracts: bounds; whether a list of orders is a group; its order.
-/
import Derived.Test.YtpflnmcecnbilaaBase
namespace Go.Proofs.Ytpflnmcecnbilaa
open Go.RowKit

/-- a number lies between two others -/
def inB (x lo hi : Int) : Bool := decide (lo ≤ x) && decide (x ≤ hi)
theorem inB_yes {x lo hi : Int} (h1 : lo ≤ x) (h2 : x ≤ hi) : inB x lo hi = true := by simp [inB, h1, h2]
theorem inB_no {x lo hi : Int} (h : ¬ (lo ≤ x ∧ x ≤ hi)) : inB x lo hi = false := by
  rw [Bool.eq_false_iff]; intro hc; simp [inB] at hc; exact h hc
theorem inB_iff {x lo hi : Int} : inB x lo hi = true ↔ lo ≤ x ∧ x ≤ hi := by simp [inB]

set_option maxHeartbeats 400000 in
theorem l1In_any (x lo hi : Int) (w : World) :
    Calls Try.prog 128 #[.int .i64 x, .int .i64 lo, .int .i64 hi] w fun e w' => e = .returned (.bool (inB x lo hi)) ∧ w = w' := by
  go_enter Try.func128, Try.ntmps128
  go_wp2
  all_goals (go_ret; exact ⟨ret_b (by simp [inB, *] <;> omega), rfl⟩)
set_option maxHeartbeats 400000 in
theorem within_any (x lo hi : Int) (w : World) :
    Calls Try.prog 121 #[.int .i64 x, .int .i64 lo, .int .i64 hi] w fun e w' => e = .returned (.bool (inB x lo hi)) ∧ w = w' := by
  go_enter Try.func121, Try.ntmps121
  go_wp2
  all_goals (go_ret; exact ⟨ret_b (by simp [inB, *] <;> omega), rfl⟩)

/-! ### a group's orders -/
theorem prodI_snoc (l : List Int) (o : Int) : prodI (l ++ [o]) = prodI l * o := by
  induction l with
  | nil => simp [prodI]
  | cons x r ih => simp [prodI, ih, Int.mul_assoc]
def inR (l : List Int) (k : Nat) : Prop := ∀ i, i < k → 2 ≤ l.getD i 0 ∧ l.getD i 0 ≤ 24
theorem inR_zero (l : List Int) : inR l 0 := fun i hi => by omega
theorem inR_succ {l : List Int} {k : Nat} (h : inR l k) (h' : 2 ≤ l.getD k 0 ∧ l.getD k 0 ≤ 24) : inR l (k + 1) := fun i hi => by
  by_cases e : i = k
  · rw [e]; exact h'
  · exact h i (by omega)
theorem prodI_step (l : List Int) (k : Nat) (h : k < l.length) : prodI (l.take (k + 1)) = prodI (l.take k) * l.getD k 0 := by
  rw [take_snoc l 0 k h, prodI_snoc]
/-- bounds of the products of at most three orders -/
theorem prodI_bd {l : List Int} {k : Nat} (h : inR l k) (hk : k ≤ l.length) (h3 : k ≤ 3) : 1 ≤ prodI (l.take k) ∧ prodI (l.take k) ≤ 13824 := by
  have mono : ∀ p o B : Int, 1 ≤ p → p ≤ B → 2 ≤ o → o ≤ 24 → 1 ≤ p * o ∧ p * o ≤ B * 24 := fun p o B h1 h2 h3 h4 => by
    have a : p * 1 ≤ p * o := Int.mul_le_mul_of_nonneg_left (by omega) (by omega)
    have b : p * o ≤ B * o := Int.mul_le_mul_of_nonneg_right h2 (by omega)
    have c : B * o ≤ B * 24 := Int.mul_le_mul_of_nonneg_left h4 (by omega)
    omega
  match k, h3 with
  | 0, _ => simp [prodI]
  | 1, _ =>
    rw [prodI_step l 0 (by omega)]
    have := h 0 (by omega)
    have := mono 1 (l.getD 0 0) 1 (by omega) (by omega) this.1 this.2
    simp [prodI] at *; omega
  | 2, _ =>
    rw [prodI_step l 1 (by omega), prodI_step l 0 (by omega)]
    have a := h 0 (by omega)
    have b := h 1 (by omega)
    have a' := mono 1 (l.getD 0 0) 1 (by omega) (by omega) a.1 a.2
    have b' := mono (1 * l.getD 0 0) (l.getD 1 0) 24 (by omega) (by omega) b.1 b.2
    simp only [List.take_zero, prodI]; omega
  | 3, _ =>
    rw [prodI_step l 2 (by omega), prodI_step l 1 (by omega), prodI_step l 0 (by omega)]
    have a := h 0 (by omega)
    have b := h 1 (by omega)
    have c := h 2 (by omega)
    have a' := mono 1 (l.getD 0 0) 1 (by omega) (by omega) a.1 a.2
    have b' := mono (1 * l.getD 0 0) (l.getD 1 0) 24 (by omega) (by omega) b.1 b.2
    have c' := mono (1 * l.getD 0 0 * l.getD 1 0) (l.getD 2 0) 576 (by omega) (by omega) c.1 c.2
    simp only [List.take_zero, prodI]; omega
theorem prodI_mul_bd {p o : Int} (h1 : 1 ≤ p) (h2 : p ≤ 13824) (h3 : 2 ≤ o) (h4 : o ≤ 24) : 1 ≤ p * o ∧ p * o ≤ 331776 := by
  have a : p * 1 ≤ p * o := Int.mul_le_mul_of_nonneg_left (by omega) (by omega)
  have b : p * o ≤ 13824 * o := Int.mul_le_mul_of_nonneg_right h2 (by omega)
  omega
theorem grp_end {l : List Int} (h : inR l l.length) (h3 : l.length ≤ 3) : grp l = decide (prodI l ≤ 24) := by
  have : (l.all fun o => decide (2 ≤ o) && decide (o ≤ 24)) = true := by
    rw [List.all_eq_true]; intro o ho
    obtain ⟨i, hi, rfl⟩ := List.mem_iff_getElem.1 ho
    have := h i hi
    simp only [List.getD_eq_getElem?_getD, List.getElem?_eq_getElem hi, Option.getD_some] at this
    simp [this]
  simp [grp, h3, this]
theorem grp_bad {l : List Int} {k : Nat} (hk : k < l.length) (h : ¬ (2 ≤ l.getD k 0 ∧ l.getD k 0 ≤ 24)) : grp l = false := by
  rw [Bool.eq_false_iff]; intro hc
  simp only [grp, Bool.and_eq_true, decide_eq_true_eq, List.all_eq_true] at hc
  exact h (hc.1.2 _ (getD_mem l 0 k hk))
theorem grp_long {l : List Int} (h : ¬ l.length ≤ 3) : grp l = false := by simp [grp, h]

set_option maxHeartbeats 400000 in
theorem isGroup_any (b off cap : Nat) (l : List Int) (w : World) (hl : l.length ≤ 1099511627776) (hg : GrpAt w b off l) :
    Calls Try.prog 170 #[.agg #[.slice (some ⟨b, off, none⟩) l.length cap]] w fun e w' => e = .returned (.bool (grp l)) ∧ Below w.heap.size w w' := by
  by_cases h3 : l.length ≤ 3
  · have hc := (hg.alloc (.cells #[.slice (some ⟨b, off, none⟩) l.length cap] 26)).cell
    go_enter Try.func170, Try.ntmps170
    go_wp2
    go_loop [3, 13] (fun n i => ∃ k : Nat, k ≤ l.length ∧ i = .int .i64 k ∧ n = .int .i64 (prodI (l.take k)) ∧ inR l k) (fun _ i => l.length - (intOf i).toNat)
    case atStart => exact ⟨0, by omega, rfl, rfl, inR_zero l⟩
    case round =>
      obtain ⟨k, hk, rfl, rfl, hr⟩ := hrel
      by_cases hlt : k < l.length
      · have hck := hc k hlt
        have hbd := prodI_bd hr hk (by omega)
        have hst : Hid (prodI (l.take (k + 1)) = prodI (l.take k) * l.getD k 0) := prodI_step l k hlt
        by_cases hin : 2 ≤ l.getD k 0 ∧ l.getD k 0 ≤ 24
        · have hr' : Hid (inR l (k + 1)) := inR_succ hr hin
          have hm := prodI_mul_bd hbd.1 hbd.2 hin.1 hin.2
          have hi1 := inB_yes hin.1 hin.2
          clear hc hr
          generalize l.getD k 0 = o at *
          generalize prodI (l.take k) = p at *
          go_wp2_with (go_at_call 121; refine (within_any _ _ _ _).mono ?_; rintro e w' ⟨rfl, rfl⟩)
          go_round
          case rel => exact ⟨k + 1, by omega, by go_num, by rw [hst.out], hr'.out⟩
          case measure => simp [intOf]; omega
        · have hbad := grp_bad hlt hin
          have hi1 := inB_no hin
          clear hc hr
          generalize l.getD k 0 = o at *
          go_wp2_with (go_at_call 121; refine (within_any _ _ _ _).mono ?_; rintro e w' ⟨rfl, rfl⟩)
          go_ret
          exact ⟨ret_b hbad.symm, (Below.refl _ _).alloc (Nat.le_refl _) _⟩
      · have hkl : k = l.length := by omega
        subst hkl
        have he : Hid (grp l = _) := grp_end hr h3
        rw [List.take_length] at *
        clear hc hr
        go_wp2
        go_ret
        exact ⟨ret_b he.out.symm, (Below.refl _ _).alloc (Nat.le_refl _) _⟩
  · have hlg := grp_long h3
    go_enter Try.func170, Try.ntmps170
    go_wp2
    go_ret
    exact ⟨ret_b hlg.symm, (Below.refl _ _).alloc (Nat.le_refl _) _⟩
set_option maxHeartbeats 400000 in
theorem sIsGroup_any (b off cap : Nat) (l : List Int) (w : World) (hl : l.length ≤ 1099511627776) (hg : GrpAt w b off l) :
    Calls Try.prog 119 #[.agg #[.slice (some ⟨b, off, none⟩) l.length cap]] w fun e w' => e = .returned (.bool (grp l)) ∧ Below w.heap.size w w' := by
  have hc := (hg.alloc (.cells #[.slice (some ⟨b, off, none⟩) l.length cap] 26)).cell
  go_enter Try.func119, Try.ntmps119
  go_wp2
  go_loop [3, 4] (fun n i => ∃ k : Nat, k ≤ l.length ∧ k ≤ 3 ∧ i = .int .i64 k ∧ n = .int .i64 (prodI (l.take k)) ∧ inR l k) (fun _ i => l.length - (intOf i).toNat)
  case atStart => exact ⟨0, by omega, by omega, rfl, rfl, inR_zero l⟩
  case round =>
    obtain ⟨k, hk, hk3, rfl, rfl, hr⟩ := hrel
    by_cases hlt : k < l.length
    · have hck := hc k hlt
      have hbd := prodI_bd hr hk hk3
      have hst : Hid (prodI (l.take (k + 1)) = prodI (l.take k) * l.getD k 0) := prodI_step l k hlt
      by_cases hin : 2 ≤ l.getD k 0 ∧ l.getD k 0 ≤ 24
      · have hr' : Hid (inR l (k + 1)) := inR_succ hr hin
        have hm := prodI_mul_bd hbd.1 hbd.2 hin.1 hin.2
        have hi1 := inB_yes hin.1 hin.2
        by_cases h2 : k ≤ 2
        · clear hc hr
          generalize l.getD k 0 = o at *
          generalize prodI (l.take k) = p at *
          go_wp2_with (go_at_call 128; refine (l1In_any _ _ _ _).mono ?_; rintro e w' ⟨rfl, rfl⟩)
          go_round
          case rel => exact ⟨k + 1, by omega, by omega, by go_num, by rw [hst.out], hr'.out⟩
          case measure => simp [intOf]; omega
        · have hlg := grp_long (l := l) (by omega)
          clear hc hr
          generalize l.getD k 0 = o at *
          go_wp2_with (go_at_call 128; refine (l1In_any _ _ _ _).mono ?_; rintro e w' ⟨rfl, rfl⟩)
          go_ret
          exact ⟨ret_b hlg.symm, (Below.refl _ _).alloc (Nat.le_refl _) _⟩
      · have hbad := grp_bad hlt hin
        have hi1 := inB_no hin
        clear hc hr
        generalize l.getD k 0 = o at *
        go_wp2_with (go_at_call 128; refine (l1In_any _ _ _ _).mono ?_; rintro e w' ⟨rfl, rfl⟩)
        go_ret
        exact ⟨ret_b hbad.symm, (Below.refl _ _).alloc (Nat.le_refl _) _⟩
    · have hkl : k = l.length := by omega
      subst hkl
      have he : Hid (grp l = _) := grp_end hr hk3
      rw [List.take_length] at *
      clear hc hr
      go_wp2
      go_ret
      exact ⟨ret_b he.out.symm, (Below.refl _ _).alloc (Nat.le_refl _) _⟩

/-! ### the order of a group -/
theorem prodN_step (m : List Nat) (k : Nat) (h : k < m.length) : prodN (m.take (k + 1)) = prodN (m.take k) * m.getD k 0 := by
  rw [take_snoc m 0 k h, prodN_append]; simp [prodN]
theorem Ok.step_le {m : List Nat} (h : Ok m) {k : Nat} (hk : k < m.length) : prodN (m.take k) * m.getD k 0 ≤ 24 := by
  rw [← prodN_step m k hk]; exact h.take_le _
/-- cells of a group's list, as naturals -/
theorem GrpAt.nat {w : World} {b off : Nat} {m : List Nat} (h : GrpAt w b off (cst m)) : ∀ i, i < (cst m).length → w.cell? ⟨b, off + i, none⟩ = some (.int .i64 ((m.getD i 0 : Nat) : Int)) := fun i hi => by
  rw [h.cell i hi, cst_getD]
theorem orderOf_no (b off cap : Nat) (l : List Int) (w : World) (hl : l.length ≤ 1099511627776) (hg : GrpAt w b off l) (hn : grp l = false) :
    Calls Try.prog 130 #[.agg #[.slice (some ⟨b, off, none⟩) l.length cap]] w fun e w' => e = .returned (.int .i64 0) ∧ Below w.heap.size w w' := by
  have hst := St.init cap 26 hg
  go_enter Try.func130, Try.ntmps130
  go_wp2_with (go_at_call 170; refine (isGroup_any _ _ _ _ _ hl hst.grp).mono ?_; rintro e w1 ⟨rfl, hb1⟩; have hst1 := hst.step hb1)
  go_ret
  exact ⟨rfl, hst1.below⟩
set_option maxHeartbeats 400000 in
theorem orderOf_yes (b off cap : Nat) (m : List Nat) (w : World) (hm : Ok m) (hg : GrpAt w b off (cst m)) :
    Calls Try.prog 130 #[.agg #[.slice (some ⟨b, off, none⟩) (cst m).length cap]] w fun e w' => e = .returned (.int .i64 (prodN m : Nat)) ∧ Below w.heap.size w w' := by
  have hst := St.init cap 26 hg
  have hlen : (cst m).length ≤ 3 := by rw [cst_length]; exact hm.len
  have hok := ok_grp hm
  go_enter Try.func130, Try.ntmps130
  go_wp2_with (go_at_call 170; refine (isGroup_any _ _ _ _ _ (by omega) hst.grp).mono ?_; rintro e w1 ⟨rfl, hb1⟩; have hst1 := hst.step hb1; have hbox := hst1.box)
  have hc := hst1.grp.nat
  go_loop [3, 12] (fun n i => ∃ k : Nat, k ≤ (cst m).length ∧ i = .int .i64 k ∧ n = .int .i64 (prodN (m.take k) : Nat)) (fun _ i => (cst m).length - (intOf i).toNat)
  case atStart => exact ⟨0, by omega, rfl, rfl⟩
  case round =>
    obtain ⟨k, hk, rfl, rfl⟩ := hrel
    by_cases hlt : k < (cst m).length
    · have hck := hc k hlt
      have hltm : k < m.length := by rw [← cst_length m]; exact hlt
      have hs : Hid (prodN (m.take (k + 1)) = prodN (m.take k) * m.getD k 0) := prodN_step m k hltm
      have hb := hm.step_le hltm
      clear hc
      generalize m.getD k 0 = o at *
      generalize prodN (m.take k) = p at *
      have hbi : ((p : Int) * o) ≤ 24 := by have : ((p * o : Nat) : Int) ≤ 24 := by omega
                                            simpa using this
      have hb0 : 0 ≤ ((p : Int) * o) := Int.mul_nonneg (by omega) (by omega)
      go_wp2
      go_round
      case rel => exact ⟨k + 1, by omega, by go_num, by rw [hs.out]; go_num⟩
      case measure => simp [intOf]; omega
    · have ht : Hid (prodN (m.take k) = prodN m) := by rw [List.take_of_length_le (by rw [← cst_length m]; omega)]; rfl
      clear hc
      generalize prodN (m.take k) = p at *
      go_wp2
      go_ret
      exact ⟨ret_i (by rw [ht.out]), hst1.below⟩
end Go.Proofs.Ytpflnmcecnbilaa
