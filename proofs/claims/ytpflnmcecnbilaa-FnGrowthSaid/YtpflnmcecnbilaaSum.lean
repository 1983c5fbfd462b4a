/-
  Contracts: the sum of two sets.
-/
import Derived.Test.YtpflnmcecnbilaaShift
namespace Go.Proofs.Ytpflnmcecnbilaa
open Go.RowKit

/-- the sums whose first element stands before place k -/
def sumTo (m K : List Nat) (B k : Nat) : Nat := ofL ((K.take k).flatMap fun x => (mem B).map fun y => addN m x y)
theorem sumTo_zero (m K : List Nat) (B : Nat) : sumTo m K B 0 = 0 := rfl
theorem sumTo_lt {m : List Nat} (hm : Ok m) (K : List Nat) (B k : Nat) : sumTo m K B k < 16777216 := ofL_bound fun i hi => by
  simp only [List.mem_flatMap, List.mem_map] at hi; obtain ⟨x, _, y, _, rfl⟩ := hi; exact hm.add24 x y
theorem shiftN_lt {m : List Nat} (hm : Ok m) (A x : Nat) : shiftN m A x < 16777216 := ofL_bound (map_add24 hm x (mem A))
theorem sumN_lt {m : List Nat} (hm : Ok m) (A B : Nat) : sumN m A B < 16777216 := Nat.lt_of_lt_of_le (hm.sum_lt A B) hm.pow_le
theorem sumTo_step {m : List Nat} (hm : Ok m) {K : List Nat} {B k x : Nat} (hk : k < K.length) (hx : K.getD k 0 = x) : bits BinOp.or IntKind.i64 ((sumTo m K B k : Nat) : Int) ((shiftN m B x : Nat) : Int) = ((sumTo m K B (k + 1) : Nat) : Int) := by
  have e : sumTo m K B (k + 1) = sumTo m K B k ||| shiftN m B x := by
    unfold sumTo shiftN; rw [take_snoc K 0 k hk, List.flatMap_append, ofL_append, hx]; simp
  rw [e]
  exact bits_or_nat _ _ (by have := sumTo_lt hm K B k; omega) (by have := shiftN_lt hm B x; omega)
theorem sumTo_end {m : List Nat} {A B k : Nat} (hk : (mem A).length ≤ k) : sumTo m (mem A) B k = sumN m A B := by
  unfold sumTo sumN; rw [List.take_of_length_le hk]
theorem sumN_comm (m : List Nat) (A B : Nat) : sumN m A B = sumN m B A := by
  unfold sumN; apply ofL_congr; intro i
  simp only [List.mem_flatMap, List.mem_map]
  constructor
  · rintro ⟨x, hx, y, hy, rfl⟩; exact ⟨y, hy, x, hx, addN_comm m y x⟩
  · rintro ⟨x, hx, y, hy, rfl⟩; exact ⟨y, hy, x, hx, addN_comm m y x⟩
set_option maxHeartbeats 400000 in
theorem sum_any (b off cap : Nat) (m : List Nat) (A B : Nat) (w : World) (hm : Ok m) (hA : A < 16777216) (hB : B < 16777216) (hg : GrpAt w b off (cst m)) :
    Calls Try.prog 115 #[.agg #[.slice (some ⟨b, off, none⟩) (cst m).length cap], .int .i64 A, .int .i64 B] w fun e w' => e = .returned (.int .i64 (sumN m A B : Nat)) ∧ Below w.heap.size w w' := by
  have hst := St.init cap 26 hg
  have hL24 : (cst (mem A)).length ≤ 24 := by rw [cst_length]; exact card_le A
  go_enter Try.func115, Try.ntmps115
  go_wp2_with fail
  refine (members_any A _ hA).mono ?_; rintro e w1 ⟨g, gc, rfl, hmade⟩
  have hstl : StL w b off cap (cst m) g (cst (mem A)) w1 := ⟨hst.step hmade.below, hmade.grp⟩
  clear hmade hst hg
  go_wp2
  go_loopw [7, 13] (fun o i wr => ∃ k : Nat, i = .int .i64 k ∧ k ≤ (cst (mem A)).length ∧ o = .int .i64 (sumTo m (mem A) B k : Nat) ∧ StL w b off cap (cst m) g (cst (mem A)) wr) (fun _ i _ => (cst (mem A)).length - (intOf i).toNat)
  case atStart => exact ⟨0, rfl, by omega, rfl, hstl⟩
  case round =>
    clear hstl
    rename_i wr
    obtain ⟨k, rfl, hk, rfl, hstr⟩ := hrel
    by_cases hlt : k < (cst (mem A)).length
    · obtain ⟨x, hx⟩ : ∃ x, Hid ((mem A).getD k 0 = x) := ⟨_, rfl⟩
      have hx24 : x < 24 := by rw [← hx.out]; exact mem_getD_lt hlt
      have hor := hid (sumTo_step (B := B) hm (by rw [← cst_length]; exact hlt) hx.out)
      have hck := hstr.lst.nat0 k hlt
      rw [hx.out] at hck
      have hbox := hstr.st.box
      go_wp2_with (go_at_call 158; refine (shift_any _ _ _ _ _ _ _ hm hB (by omega) hstr.st.grp).mono ?_; rintro e w2 ⟨rfl, hb2⟩; have hst2 := hstr.step hb2; clear hb2)
      go_roundw
      case rel => exact ⟨k + 1, by go_num, by omega, by rw [← hor.out], hst2⟩
      case measure => simp [intOf]; omega
    · have hend : Hid (sumTo m (mem A) B k = sumN m A B) := sumTo_end (by rw [← cst_length]; omega)
      go_wp2
      go_ret
      exact ⟨ret_i (by rw [hend.out]), hstr.st.below⟩
set_option maxHeartbeats 400000 in
theorem l4Sum_any (b off cap : Nat) (m : List Nat) (A B : Nat) (w : World) (hm : Ok m) (hA : A < 16777216) (hB : B < 16777216) (hg : GrpAt w b off (cst m)) :
    Calls Try.prog 117 #[.agg #[.slice (some ⟨b, off, none⟩) (cst m).length cap], .int .i64 A, .int .i64 B] w fun e w' => e = .returned (.int .i64 (sumN m A B : Nat)) ∧ Below w.heap.size w w' := by
  have hst := St.init cap 26 hg
  have hL24 : (cst (mem B)).length ≤ 24 := by rw [cst_length]; exact card_le B
  go_enter Try.func117, Try.ntmps117
  go_wp2_with fail
  refine (l3List_any B _ hB).mono ?_; rintro e w1 ⟨g, gc, rfl, hmade⟩
  have hstl : StL w b off cap (cst m) g (cst (mem B)) w1 := ⟨hst.step hmade.below, hmade.grp⟩
  clear hmade hst hg
  go_wp2
  go_loopw [7, 9] (fun o i wr => ∃ k : Nat, i = .int .i64 k ∧ k ≤ (cst (mem B)).length ∧ o = .int .i64 (sumTo m (mem B) A k : Nat) ∧ StL w b off cap (cst m) g (cst (mem B)) wr) (fun _ i _ => (cst (mem B)).length - (intOf i).toNat)
  case atStart => exact ⟨0, rfl, by omega, rfl, hstl⟩
  case round =>
    clear hstl
    rename_i wr
    obtain ⟨k, rfl, hk, rfl, hstr⟩ := hrel
    by_cases hlt : k < (cst (mem B)).length
    · obtain ⟨y, hy⟩ : ∃ y, Hid ((mem B).getD k 0 = y) := ⟨_, rfl⟩
      have hy24 : y < 24 := by rw [← hy.out]; exact mem_getD_lt hlt
      have hor := hid (sumTo_step (B := A) hm (by rw [← cst_length]; exact hlt) hy.out)
      have hst0 := hstr.drew.hold hlt hy
      clear hstr
      go_wp2
      go_region_held3 (fun w' => w'.cell? ⟨w.heap.size, 0, none⟩ = some (.slice (some ⟨b, off, none⟩) (cst m).length cap) ∧ w'.cell? ⟨g, k, none⟩ = some (.int .i64 (y : Int)) ∧ StL w b off cap (cst m) g (cst (mem B)) w') (first | exact hst0 | exact StL.keep (by assumption) hlt hy hb1)
        (first | (go_at_call 159; refine (l3Shift_any _ _ _ _ _ _ _ hm hA (by omega) (StL.grpOf (by assumption))).mono ?_; rintro e w1 ⟨rfl, hb1⟩))
      have hst2 : StL w b off cap (cst m) g (cst (mem B)) w1 := And.right (And.right (by assumption))
      go_wp2
      go_roundw
      case rel => exact ⟨k + 1, by go_num, by omega, by rw [← hor.out], hst2⟩
      case measure => simp [intOf]; omega
    · have hend : Hid (sumTo m (mem B) A k = sumN m A B) := by unfold Hid; rw [sumTo_end (by rw [← cst_length]; omega), sumN_comm]
      go_wp2
      go_ret
      exact ⟨ret_i (by rw [hend.out]), hstr.st.below⟩
end Go.Proofs.Ytpflnmcecnbilaa
