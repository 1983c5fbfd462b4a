/-
  Contracts: stabilizers, sets of negatives, differences of sets.
-/
import Derived.Test.YtpflnmcecnbilaaSum
import Derived.Test.YtpflnmcecnbilaaFull
namespace Go.Proofs.Ytpflnmcecnbilaa
open Go.RowKit

/-- the elements before place k that shift a set onto itself -/
def stabTo (m : List Nat) (A k : Nat) : List Nat := (List.range k).filter fun x => decide (shiftN m A x = A)
theorem stabTo_yes {m : List Nat} {A k : Nat} (h : shiftN m A k = A) : stabTo m A (k + 1) = stabTo m A k ++ [k] := by simp [stabTo, List.range_succ, h]
theorem stabTo_no {m : List Nat} {A k : Nat} (h : ¬ shiftN m A k = A) : stabTo m A (k + 1) = stabTo m A k := by simp [stabTo, List.range_succ, h]
theorem stabTo_lt {m : List Nat} {A k : Nat} (hk : k ≤ 24) : ∀ i ∈ stabTo m A k, i < 24 := fun i hi => by
  simp only [stabTo, List.mem_filter, List.mem_range] at hi; omega
def stabN (m : List Nat) (A : Nat) : Nat := ofL (stabTo m A (prodN m))
theorem stabN_lt {m : List Nat} (A : Nat) : stabN m A < 2 ^ prodN m := ofL_lt fun i hi => by
  simp only [stabTo, List.mem_filter, List.mem_range] at hi; exact hi.1
theorem stabN_bd {m : List Nat} (hm : Ok m) (A : Nat) : stabN m A < 16777216 := Nat.lt_of_lt_of_le (stabN_lt A) hm.pow_le
set_option maxHeartbeats 400000 in
theorem stabilizerOf_yes (b off cap : Nat) (m : List Nat) (A : Nat) (w : World) (hm : Ok m) (hA : A < 2 ^ prodN m) (hg : GrpAt w b off (cst m)) :
    Calls Try.prog 164 #[.agg #[.slice (some ⟨b, off, none⟩) (cst m).length cap], .int .i64 A] w fun e w' => e = .returned (.int .i64 (stabN m A : Nat)) ∧ Below w.heap.size w w' := by
  have hst := St.init cap 26 hg
  have hl : (cst m).length ≤ 1099511627776 := by rw [cst_length]; have := hm.len; omega
  have y1 := isSetB_nat hm hA
  have hA' := Nat.lt_of_lt_of_le hA hm.pow_le
  have hord := hm.ord
  go_enter Try.func164, Try.ntmps164
  go_wp2_with (first | (go_at_call 132; refine (isSet_any _ _ _ _ _ _ hl (St.grp (by assumption))).mono ?_; rintro e wN ⟨rfl, hbN⟩; have hstN := St.step (by assumption) hbN; have hboxN := hstN.box; clear hbN) | (go_at_call 130; refine (orderOf_yes _ _ _ _ _ hm (St.grp (by assumption))).mono ?_; rintro e wN ⟨rfl, hbN⟩; have hstN := St.step (by assumption) hbN; have hboxN := hstN.box; clear hbN))
  have hst2 : St w b off cap (cst m) wN := by assumption
  clear hst hboxN
  go_loopw [5, 13] (fun o i wr => ∃ k : Nat, i = .int .i64 k ∧ k ≤ prodN m ∧ o = .int .i64 (ofL (stabTo m A k) : Nat) ∧ St w b off cap (cst m) wr) (fun _ i _ => prodN m - (intOf i).toNat)
  case atStart => exact ⟨0, rfl, by omega, rfl, hst2⟩
  case round =>
    rename_i wr
    obtain ⟨k, rfl, hk, rfl, hstr⟩ := hrel
    have hboxr := hstr.box
    clear hst2
    by_cases hlt : k < prodN m
    · have hor := hid (ofL_or (stabTo_lt (m := m) (A := A) (k := k) (by omega)) (show k < 24 by omega))
      have hsh := shl1 (x := k) (by omega)
      have hpl := pw_le (x := k) (by omega)
      by_cases he : shiftN m A k = A
      · have hs : Hid (stabTo m A (k + 1) = stabTo m A k ++ [k]) := stabTo_yes he
        have heb : (((shiftN m A k : Nat) : Int) == (A : Int)) = true := by rw [he]; simp
        clear he
        go_wp2_with (first | (go_at_call 158; refine (shift_any _ _ _ _ _ _ _ hm (by omega) (by omega) (St.grp (by assumption))).mono ?_; rintro e wN ⟨rfl, hbN⟩; have hstN := St.step (by assumption) hbN; have hboxN := hstN.box; clear hbN))
        go_roundw
        case rel => exact ⟨k + 1, by go_num, by omega, by rw [hs.out, ← hor.out], by assumption⟩
        case measure => simp [intOf]; omega
      · have hs : Hid (stabTo m A (k + 1) = stabTo m A k) := stabTo_no he
        have heb : (((shiftN m A k : Nat) : Int) == (A : Int)) = false := by rw [beq_eq_false_iff_ne]; omega
        clear he
        go_wp2_with (first | (go_at_call 158; refine (shift_any _ _ _ _ _ _ _ hm (by omega) (by omega) (St.grp (by assumption))).mono ?_; rintro e wN ⟨rfl, hbN⟩; have hstN := St.step (by assumption) hbN; have hboxN := hstN.box; clear hbN))
        go_roundw
        case rel => exact ⟨k + 1, by go_num, by omega, by rw [hs.out], by assumption⟩
        case measure => simp [intOf]; omega
    · have he : Hid (ofL (stabTo m A k) = stabN m A) := by unfold Hid; rw [show k = prodN m from by omega]; rfl
      go_wp2
      go_ret
      exact ⟨ret_i (by rw [he.out]), hstr.below⟩
set_option maxHeartbeats 400000 in
theorem l6Stabilizer_any (b off cap : Nat) (m : List Nat) (A : Nat) (w : World) (hm : Ok m) (hA : A < 16777216) (hg : GrpAt w b off (cst m)) :
    Calls Try.prog 166 #[.agg #[.slice (some ⟨b, off, none⟩) (cst m).length cap], .int .i64 A] w fun e w' => e = .returned (.int .i64 (stabN m A : Nat)) ∧ Below w.heap.size w w' := by
  have hst := St.init cap 26 hg
  have hord := hm.ord
  go_enter Try.func166, Try.ntmps166
  go_wp2
  go_loopw [5, 6] (fun o i wr => ∃ k : Nat, i = .int .i64 k ∧ k ≤ prodN m ∧ o = .int .i64 (ofL (stabTo m A k) : Nat) ∧ St w b off cap (cst m) wr) (fun _ i _ => prodN m - (intOf i).toNat)
  case atStart => exact ⟨0, rfl, by omega, rfl, hst⟩
  case round =>
    rename_i wr
    obtain ⟨k, rfl, hk, rfl, hstr⟩ := hrel
    have hboxr := hstr.box
    clear hst
    by_cases hlt : k < prodN m
    · have hor := hid (ofL_or (stabTo_lt (m := m) (A := A) (k := k) (by omega)) (show k < 24 by omega))
      have hsh := shl1 (x := k) (by omega)
      have hpl := pw_le (x := k) (by omega)
      by_cases he : shiftN m A k = A
      · have hs : Hid (stabTo m A (k + 1) = stabTo m A k ++ [k]) := stabTo_yes he
        have heb : (((shiftN m A k : Nat) : Int) == (A : Int)) = true := by rw [he]; simp
        clear he
        go_wp2_with (first | (go_at_call 120; refine (l2Order_any _ _ _ _ _ hm (St.grp (by assumption))).mono ?_; rintro e wN ⟨rfl, hbN⟩; have hstN := St.step (by assumption) hbN; have hboxN := hstN.box; clear hbN) | (go_at_call 159; refine (l3Shift_any _ _ _ _ _ _ _ hm (by omega) (by omega) (St.grp (by assumption))).mono ?_; rintro e wN ⟨rfl, hbN⟩; have hstN := St.step (by assumption) hbN; have hboxN := hstN.box; clear hbN))
        go_roundw
        case rel => exact ⟨k + 1, by go_num, by omega, by rw [hs.out, ← hor.out], by assumption⟩
        case measure => simp [intOf]; omega
      · have hs : Hid (stabTo m A (k + 1) = stabTo m A k) := stabTo_no he
        have heb : (((shiftN m A k : Nat) : Int) == (A : Int)) = false := by rw [beq_eq_false_iff_ne]; omega
        clear he
        go_wp2_with (first | (go_at_call 120; refine (l2Order_any _ _ _ _ _ hm (St.grp (by assumption))).mono ?_; rintro e wN ⟨rfl, hbN⟩; have hstN := St.step (by assumption) hbN; have hboxN := hstN.box; clear hbN) | (go_at_call 159; refine (l3Shift_any _ _ _ _ _ _ _ hm (by omega) (by omega) (St.grp (by assumption))).mono ?_; rintro e wN ⟨rfl, hbN⟩; have hstN := St.step (by assumption) hbN; have hboxN := hstN.box; clear hbN))
        go_roundw
        case rel => exact ⟨k + 1, by go_num, by omega, by rw [hs.out], by assumption⟩
        case measure => simp [intOf]; omega
    · have he : Hid (ofL (stabTo m A k) = stabN m A) := by unfold Hid; rw [show k = prodN m from by omega]; rfl
      go_wp2_with (first | (go_at_call 120; refine (l2Order_any _ _ _ _ _ hm (St.grp (by assumption))).mono ?_; rintro e wN ⟨rfl, hbN⟩; have hstN := St.step (by assumption) hbN; have hboxN := hstN.box; clear hbN))
      go_ret
      exact ⟨ret_i (by rw [he.out]), St.below (by assumption)⟩

/-! ### negatives -/
theorem map_neg24 {m : List Nat} (hm : Ok m) (L : List Nat) : ∀ i ∈ L.map (negN m), i < 24 := fun i hi => by
  simp only [List.mem_map] at hi; obtain ⟨y, _, rfl⟩ := hi; exact hm.neg24 y
theorem oppN_lt {m : List Nat} (hm : Ok m) (A : Nat) : oppN m A < 16777216 := Nat.lt_of_lt_of_le (hm.opp_lt A) hm.pow_le
/-- the negatives of the elements before place k -/
def negTo (m K : List Nat) (k : Nat) : Nat := ofL ((K.take k).map (negN m))
theorem negTo_step {m : List Nat} (hm : Ok m) {K : List Nat} {k x : Nat} (hk : k < K.length) (hx : K.getD k 0 = x) : bits BinOp.or IntKind.i64 ((negTo m K k : Nat) : Int) ((pw (negN m x) : Nat) : Int) = ((negTo m K (k + 1) : Nat) : Int) := by
  unfold negTo; rw [take_snoc K 0 k hk, hx, List.map_append]
  exact ofL_or (map_neg24 hm (K.take k)) (hm.neg24 x)
theorem negTo_end {m : List Nat} {A k : Nat} (hk : (mem A).length ≤ k) : negTo m (mem A) k = oppN m A := by
  unfold oppN negTo; rw [List.take_of_length_le hk]
set_option maxHeartbeats 400000 in
theorem opposite_any (b off cap : Nat) (m : List Nat) (A : Nat) (w : World) (hm : Ok m) (hA : A < 16777216) (hg : GrpAt w b off (cst m)) :
    Calls Try.prog 180 #[.agg #[.slice (some ⟨b, off, none⟩) (cst m).length cap], .int .i64 A] w fun e w' => e = .returned (.int .i64 (oppN m A : Nat)) ∧ Below w.heap.size w w' := by
  have hst := St.init cap 26 hg
  have hL24 : (cst (mem A)).length ≤ 24 := by rw [cst_length]; exact card_le A
  go_enter Try.func180, Try.ntmps180
  go_wp2_with fail
  refine (members_any A _ hA).mono ?_; rintro e w1 ⟨g, gc, rfl, hmade⟩
  have hstl : StL w b off cap (cst m) g (cst (mem A)) w1 := ⟨hst.step hmade.below, hmade.grp⟩
  clear hmade hst hg
  go_wp2
  go_loopw [5, 11] (fun o i wr => ∃ k : Nat, i = .int .i64 k ∧ k ≤ (cst (mem A)).length ∧ o = .int .i64 (negTo m (mem A) k : Nat) ∧ StL w b off cap (cst m) g (cst (mem A)) wr) (fun _ i _ => (cst (mem A)).length - (intOf i).toNat)
  case atStart => exact ⟨0, rfl, by omega, rfl, hstl⟩
  case round =>
    clear hstl
    rename_i wr
    obtain ⟨k, rfl, hk, rfl, hstr⟩ := hrel
    by_cases hlt : k < (cst (mem A)).length
    · obtain ⟨x, hx⟩ : ∃ x, Hid ((mem A).getD k 0 = x) := ⟨_, rfl⟩
      have hx24 : x < 24 := by rw [← hx.out]; exact mem_getD_lt hlt
      have hor := hid (negTo_step hm (by rw [← cst_length]; exact hlt) hx.out)
      have hck := hstr.lst.nat0 k hlt
      rw [hx.out] at hck
      have hbox := hstr.st.box
      have hn24 := hm.neg24 x
      have hsh := shl1 (x := negN m x) (by omega)
      have hpl := pw_le (x := negN m x) (by omega)
      go_wp2_with (go_at_call 181; refine (negate_any _ _ _ _ _ _ hm (by omega) hstr.st.grp).mono ?_; rintro e w2 ⟨rfl, hb2⟩; have hst2 := hstr.step hb2; clear hb2)
      go_roundw
      case rel => exact ⟨k + 1, by go_num, by omega, by rw [← hor.out], hst2⟩
      case measure => simp [intOf]; omega
    · have hend : Hid (negTo m (mem A) k = oppN m A) := negTo_end (by rw [← cst_length]; omega)
      go_wp2
      go_ret
      exact ⟨ret_i (by rw [hend.out]), hstr.st.below⟩
set_option maxHeartbeats 400000 in
theorem l3Negate_any (b off cap : Nat) (m : List Nat) (A : Nat) (w : World) (hm : Ok m) (hA : A < 16777216) (hg : GrpAt w b off (cst m)) :
    Calls Try.prog 157 #[.agg #[.slice (some ⟨b, off, none⟩) (cst m).length cap], .int .i64 A] w fun e w' => e = .returned (.int .i64 (oppN m A : Nat)) ∧ Below w.heap.size w w' := by
  have hst := St.init cap 26 hg
  have hL24 : (cst (mem A)).length ≤ 24 := by rw [cst_length]; exact card_le A
  go_enter Try.func157, Try.ntmps157
  go_wp2_with fail
  refine (l3List_any A _ hA).mono ?_; rintro e w1 ⟨g, gc, rfl, hmade⟩
  have hstl : StL w b off cap (cst m) g (cst (mem A)) w1 := ⟨hst.step hmade.below, hmade.grp⟩
  clear hmade hst hg
  go_wp2
  go_loopw [5, 7] (fun o i wr => ∃ k : Nat, i = .int .i64 k ∧ k ≤ (cst (mem A)).length ∧ o = .int .i64 (negTo m (mem A) k : Nat) ∧ StL w b off cap (cst m) g (cst (mem A)) wr) (fun _ i _ => (cst (mem A)).length - (intOf i).toNat)
  case atStart => exact ⟨0, rfl, by omega, rfl, hstl⟩
  case round =>
    clear hstl
    rename_i wr
    obtain ⟨k, rfl, hk, rfl, hstr⟩ := hrel
    by_cases hlt : k < (cst (mem A)).length
    · obtain ⟨y, hy⟩ : ∃ y, Hid ((mem A).getD k 0 = y) := ⟨_, rfl⟩
      have hy24 : y < 24 := by rw [← hy.out]; exact mem_getD_lt hlt
      have hor := hid (negTo_step hm (by rw [← cst_length]; exact hlt) hy.out)
      have hn24 := hm.neg24 y
      have hsh := hid (shl1k (x := negN m y) (by omega))
      have hst0 := hstr.drew.hold hlt hy
      clear hstr
      go_wp2
      go_region_held3 (fun w' => w'.cell? ⟨w.heap.size, 0, none⟩ = some (.slice (some ⟨b, off, none⟩) (cst m).length cap) ∧ w'.cell? ⟨g, k, none⟩ = some (.int .i64 (y : Int)) ∧ StL w b off cap (cst m) g (cst (mem A)) w') (first | exact hst0 | exact StL.keep (by assumption) hlt hy hb1)
        (first | (go_at_call 140; refine (l2Negate_any _ _ _ _ _ _ hm (by omega) (StL.grpOf (by assumption))).mono ?_; rintro e w1 ⟨rfl, hb1⟩))
      have hst2 : StL w b off cap (cst m) g (cst (mem A)) w1 := And.right (And.right (by assumption))
      go_wp2
      go_roundw
      case rel => exact ⟨k + 1, by go_num, by omega, by rw [← hor.out, hsh.out], hst2⟩
      case measure => simp [intOf]; omega
    · have hend : Hid (negTo m (mem A) k = oppN m A) := negTo_end (by rw [← cst_length]; omega)
      go_wp2
      go_ret
      exact ⟨ret_i (by rw [hend.out]), hstr.st.below⟩
def diffN (m : List Nat) (A B : Nat) : Nat := sumN m A (oppN m B)
theorem diffN_lt {m : List Nat} (hm : Ok m) (A B : Nat) : diffN m A B < 16777216 := sumN_lt hm A _
set_option maxHeartbeats 400000 in
theorem difference_any (b off cap : Nat) (m : List Nat) (A B : Nat) (w : World) (hm : Ok m) (hA : A < 16777216) (hB : B < 16777216) (hg : GrpAt w b off (cst m)) :
    Calls Try.prog 149 #[.agg #[.slice (some ⟨b, off, none⟩) (cst m).length cap], .int .i64 A, .int .i64 B] w fun e w' => e = .returned (.int .i64 (diffN m A B : Nat)) ∧ Below w.heap.size w w' := by
  have hst := St.init cap 26 hg
  have hO := oppN_lt hm B
  have hr : Hid (diffN m A B = sumN m A (oppN m B)) := rfl
  have hst0 := hst.drew
  clear hst hg
  go_enter Try.func149, Try.ntmps149
  go_wp2
  go_region_held3 (fun w' => w'.cell? ⟨w.heap.size, 0, none⟩ = some (.slice (some ⟨b, off, none⟩) (cst m).length cap) ∧ St w b off cap (cst m) w') (first | exact ⟨hst0.box, hst0⟩ | exact St.keep (by assumption) hb1 | assumption) (first | (go_at_call 180; refine (opposite_any _ _ _ _ _ _ hm (by omega) (St.grpOf (by assumption))).mono ?_; rintro e w1 ⟨rfl, hb1⟩) | (go_at_call 115; refine (sum_any _ _ _ _ _ _ _ hm (by omega) (by omega) (St.grpOf (by assumption))).mono ?_; rintro e w1 ⟨rfl, hb1⟩))
  have hst2 : St w b off cap (cst m) w1 := And.right (by assumption)
  go_wp2
  go_ret
  exact ⟨ret_i (by rw [hr.out]), hst2.below⟩
set_option maxHeartbeats 400000 in
theorem sDifference_yes (b off cap : Nat) (m : List Nat) (A B : Nat) (w : World) (hm : Ok m) (hA : A < 2 ^ prodN m) (hB : B < 2 ^ prodN m) (hg : GrpAt w b off (cst m)) :
    Calls Try.prog 63 #[.agg #[.slice (some ⟨b, off, none⟩) (cst m).length cap], .int .i64 A, .int .i64 B] w fun e w' => e = .returned (.int .i64 (diffN m A B : Nat)) ∧ Below w.heap.size w w' := by
  have hst := St.init cap 26 hg
  have hl : (cst m).length ≤ 1099511627776 := by rw [cst_length]; have := hm.len; omega
  have y1 := isSetB_nat hm hA
  have y2 := isSetB_nat hm hB
  have hA' := Nat.lt_of_lt_of_le hA hm.pow_le
  have hB' := Nat.lt_of_lt_of_le hB hm.pow_le
  have hO := oppN_lt hm B
  have hr : Hid (diffN m A B = sumN m A (oppN m B)) := rfl
  clear hA hB
  go_enter Try.func63, Try.ntmps63
  go_wp2_with (first | (go_at_call 64; refine (sIsSet_any _ _ _ _ _ _ hl (St.grp (by assumption))).mono ?_; rintro e wN ⟨rfl, hbN⟩; have hstN := St.step (by assumption) hbN; have hboxN := hstN.box; clear hbN))
  have hst0 : St w b off cap (cst m) wN := by assumption
  have hst1 := hst0.drew
  clear hst hst0 hboxN
  go_region_held3 (fun w' => w'.cell? ⟨w.heap.size, 0, none⟩ = some (.slice (some ⟨b, off, none⟩) (cst m).length cap) ∧ St w b off cap (cst m) w') (first | exact ⟨hst1.box, hst1⟩ | exact St.keep (by assumption) hb1 | assumption) (first | (go_at_call 157; refine (l3Negate_any _ _ _ _ _ _ hm (by omega) (St.grpOf (by assumption))).mono ?_; rintro e w1 ⟨rfl, hb1⟩) | (go_at_call 117; refine (l4Sum_any _ _ _ _ _ _ _ hm (by omega) (by omega) (St.grpOf (by assumption))).mono ?_; rintro e w1 ⟨rfl, hb1⟩))
  have hst2 : St w b off cap (cst m) w1 := And.right (by assumption)
  go_wp2
  go_ret
  exact ⟨ret_i (by rw [hr.out]), hst2.below⟩
end Go.Proofs.Ytpflnmcecnbilaa
