/-
  Contracts: negatives, lists of elements, shifts.
-/
import Derived.Test.YtpflnmcecnbilaaAdd
import Derived.Deep.RegionHeld3
namespace Go.Proofs.Ytpflnmcecnbilaa
open Go.RowKit

/-! ### negative -/
theorem neg_lt_step {S U o r : Nat} (hS : S < U) (hr : r < o) : S + r * U < U * o := add_lt_step hS hr
theorem wrap_neg {S U o X : Nat} (hS : S < U) (ho : 2 ≤ o) (hU : U * o ≤ 24) : wrap64 ((S : Int) + wrap64 (-((X : Int) % (o : Int)) % (o : Int) * (U : Int))) = ((S + (o - X % o) % o * U : Nat) : Int) := by
  have h := add_lt_step (o := o) hS (Nat.mod_lt (o - X % o) (show o > 0 by omega))
  have hx := Nat.mod_lt X (show o > 0 by omega)
  have e : -((X : Int) % (o : Int)) % (o : Int) * (U : Int) = (((o - X % o) % o * U : Nat) : Int) := by
    rw [show -((X : Int) % (o : Int)) % (o : Int) = ((o : Int) - (X : Int) % (o : Int)) % (o : Int) from by simp]
    rw [Int.natCast_mul, Int.natCast_emod, Int.natCast_sub (by omega), Int.natCast_emod]
  rw [e]
  generalize (o - X % o) % o * U = q at *
  rw [IntWalk.wrap64_in (q : Int) (by omega), IntWalk.wrap64_in _ (by omega)]
  simp
theorem negN_step {m : List Nat} {k X S U x : Nat} (hk : k < m.length) (h : S + U * negN (m.drop k) X = negN m x) :
    S + (m.getD k 0 - X % m.getD k 0) % m.getD k 0 * U + U * m.getD k 0 * negN (m.drop (k + 1)) (X / m.getD k 0) = negN m x := by
  rw [← h, drop_cons m 0 k hk]
  generalize m.getD k 0 = o
  simp only [negN]
  rw [Nat.mul_add, Nat.mul_assoc, Nat.mul_comm U ((o - X % o) % o), Nat.add_assoc]
theorem negN_end {m : List Nat} {k X S U x : Nat} (hk : m.length ≤ k) (h : S + U * negN (m.drop k) X = negN m x) : S = negN m x := by
  rw [← h, List.drop_of_length_le hk]; simp [negN]
set_option maxHeartbeats 400000 in
theorem negate_any (b off cap : Nat) (m : List Nat) (x : Nat) (w : World) (hm : Ok m) (hx : x ≤ 16777216) (hg : GrpAt w b off (cst m)) :
    Calls Try.prog 181 #[.agg #[.slice (some ⟨b, off, none⟩) (cst m).length cap], .int .i64 x] w fun e w' => e = .returned (.int .i64 (negN m x : Nat)) ∧ Below w.heap.size w w' := by
  have hst := St.init cap 26 hg
  have hlen : (cst m).length ≤ 3 := by rw [cst_length]; exact hm.len
  go_enter Try.func181, Try.ntmps181
  go_wp2
  go_loopw [1, 5, 6, 12] (fun x1 s u i wr => ∃ k X S U : Nat, k ≤ (cst m).length ∧ i = .int .i64 k ∧ x1 = .int .i64 X ∧ s = .int .i64 S ∧ u = .int .i64 U ∧ X ≤ 16777216 ∧ S < U ∧ Hid (U = prodN (m.take k)) ∧ Hid (S + U * negN (m.drop k) X = negN m x) ∧ St w b off cap (cst m) wr) (fun _ _ _ i _ => (cst m).length - (intOf i).toNat)
  case atStart => exact ⟨0, x, 0, 1, by omega, rfl, rfl, rfl, rfl, hx, by omega, rfl, by simp [Hid], hst⟩
  case round =>
    rename_i wr
    obtain ⟨k, X, S, U, hk, rfl, rfl, rfl, rfl, hX, hS, hU, hrel, hstr⟩ := hrel
    by_cases hlt : k < (cst m).length
    · have hck := hstr.grp.nat k hlt
      have hltm : k < m.length := by rw [← cst_length m]; exact hlt
      have ho := hm.ath hltm
      have hU24 : U * m.getD k 0 ≤ 24 := by rw [hU.out]; exact hm.step_le hltm
      have hU' : Hid (U * m.getD k 0 = prodN (m.take (k + 1))) := by unfold Hid; rw [hU.out, prodN_step m k hltm]
      have hn := hid (negN_step hltm hrel.out)
      have hlt' : S + (m.getD k 0 - X % m.getD k 0) % m.getD k 0 * U < U * m.getD k 0 := add_lt_step hS (Nat.mod_lt _ (by omega))
      have hwS := hid (wrap_neg (X := X) hS ho.1 hU24)
      have hm1 := mod_bd X ho.1
      have hd1 := Nat.div_le_self X (m.getD k 0)
      generalize m.getD k 0 = o at *
      have hl1 := hid hU24
      have hl2 := hid hlt'
      clear hU24 hlt'
      go_wp2
      go_roundw
      case rel => exact ⟨k + 1, X / o, S + (o - X % o) % o * U, U * o, by omega, by go_num, val_i (wrap_div hX), val_i hwS.out, val_i (wrap_mul (by have := hl1.out; omega)), by omega, hl2.out, hU', hn, hstr⟩
      case measure => simp [intOf]; omega
    · have hend := hid (negN_end (by rw [← cst_length m]; omega) hrel.out)
      go_wp2
      go_ret
      exact ⟨ret_i (by rw [hend.out]), hstr.below⟩
set_option maxHeartbeats 400000 in
theorem l2Negate_any (b off cap : Nat) (m : List Nat) (x : Nat) (w : World) (hm : Ok m) (hx : x ≤ 16777216) (hg : GrpAt w b off (cst m)) :
    Calls Try.prog 140 #[.agg #[.slice (some ⟨b, off, none⟩) (cst m).length cap], .int .i64 x] w fun e w' => e = .returned (.int .i64 (negN m x : Nat)) ∧ Below w.heap.size w w' := by
  have hst := St.init cap 26 hg
  have hlen : (cst m).length ≤ 3 := by rw [cst_length]; exact hm.len
  go_enter Try.func140, Try.ntmps140
  go_wp2
  go_loopw [1, 5, 6, 7] (fun x1 s u i wr => ∃ k X S U : Nat, k ≤ (cst m).length ∧ i = .int .i64 k ∧ x1 = .int .i64 X ∧ s = .int .i64 S ∧ u = .int .i64 U ∧ X ≤ 16777216 ∧ S < U ∧ Hid (U = prodN (m.take k)) ∧ Hid (S + U * negN (m.drop k) X = negN m x) ∧ St w b off cap (cst m) wr) (fun _ _ _ i _ => (cst m).length - (intOf i).toNat)
  case atStart => exact ⟨0, x, 0, 1, by omega, rfl, rfl, rfl, rfl, hx, by omega, rfl, by simp [Hid], hst⟩
  case round =>
    rename_i wr
    obtain ⟨k, X, S, U, hk, rfl, rfl, rfl, rfl, hX, hS, hU, hrel, hstr⟩ := hrel
    have hbox := hstr.box
    by_cases hlt : k < (cst m).length
    · have hck := hstr.grp.nat k hlt
      have hltm : k < m.length := by rw [← cst_length m]; exact hlt
      have ho := hm.ath hltm
      have hU24 : U * m.getD k 0 ≤ 24 := by rw [hU.out]; exact hm.step_le hltm
      have hU' : Hid (U * m.getD k 0 = prodN (m.take (k + 1))) := by unfold Hid; rw [hU.out, prodN_step m k hltm]
      have hn := hid (negN_step hltm hrel.out)
      have hlt' : S + (m.getD k 0 - X % m.getD k 0) % m.getD k 0 * U < U * m.getD k 0 := add_lt_step hS (Nat.mod_lt _ (by omega))
      have hwS := hid (wrap_neg (X := X) hS ho.1 hU24)
      have hm1 := mod_bd X ho.1
      have hd1 := Nat.div_le_self X (m.getD k 0)
      generalize m.getD k 0 = o at *
      have hl1 := hid hU24
      have hl2 := hid hlt'
      clear hU24 hlt'
      go_wp2
      go_roundw
      case rel => exact ⟨k + 1, X / o, S + (o - X % o) % o * U, U * o, by omega, by go_num, val_i (wrap_div hX), val_i hwS.out, val_i (wrap_mul (by have := hl1.out; omega)), by omega, hl2.out, hU', hn, hstr⟩
      case measure => simp [intOf]; omega
    · have hend := hid (negN_end (by rw [← cst_length m]; omega) hrel.out)
      go_wp2
      go_ret
      exact ⟨ret_i (by rw [hend.out]), hstr.below⟩
set_option maxHeartbeats 400000 in
theorem minus_any (b off cap : Nat) (m : List Nat) (x y : Nat) (w : World) (hm : Ok m) (hx : x ≤ 16777216) (hy : y ≤ 16777216) (hg : GrpAt w b off (cst m)) :
    Calls Try.prog 150 #[.agg #[.slice (some ⟨b, off, none⟩) (cst m).length cap], .int .i64 x, .int .i64 y] w fun e w' => e = .returned (.int .i64 (addN m x (negN m y) : Nat)) ∧ Below w.heap.size w w' := by
  have hst := St.init cap 26 hg
  have hn := hm.neg24 y
  go_enter Try.func150, Try.ntmps150
  go_wp2
  have hst0 := hst.drew
  clear hst hg
  go_region_held3 (fun w' => w'.cell? ⟨w.heap.size, 0, none⟩ = some (.slice (some ⟨b, off, none⟩) (cst m).length cap) ∧ St w b off cap (cst m) w') (first | exact ⟨hst0.box, hst0⟩ | exact St.keep (by assumption) hb1)
    (first | (go_at_call 181; refine (negate_any _ _ _ _ _ _ hm hy (St.grpOf (by assumption))).mono ?_; rintro e w1 ⟨rfl, hb1⟩) | (go_at_call 137; refine (add_any _ _ _ _ _ _ _ hm hx (by omega) (St.grpOf (by assumption))).mono ?_; rintro e w1 ⟨rfl, hb1⟩))
  have hst2 : St w b off cap (cst m) w1 := And.right (by assumption)
  go_wp2
  go_ret
  exact ⟨rfl, hst2.below⟩
end Go.Proofs.Ytpflnmcecnbilaa
