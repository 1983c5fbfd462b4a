/-
  Contracts: the sum and the negative of elements.
-/
import Derived.Test.YtpflnmcecnbilaaGrp2
import Derived.BigQuiet
import Derived.Deep.QuietTactic
namespace Go.Proofs.Ytpflnmcecnbilaa
open Go.RowKit

theorem wrap_div {X o : Nat} (hX : X ≤ 16777216) : wrap64 ((X : Int) / (o : Int)) = ((X / o : Nat) : Int) := by
  have h : X / o ≤ X := Nat.div_le_self _ _
  rw [← Int.natCast_ediv]
  generalize X / o = q at *
  exact IntWalk.wrap64_in _ (by omega)
theorem mod_bd (X : Nat) {o : Nat} (ho : 2 ≤ o) : 0 ≤ (X : Int) % (o : Int) ∧ (X : Int) % (o : Int) < (o : Int) := ⟨Int.emod_nonneg _ (by omega), Int.emod_lt_of_pos _ (by omega)⟩
theorem wrap_mul {X o : Nat} (h : X * o ≤ 16777216) : wrap64 ((X : Int) * (o : Int)) = ((X * o : Nat) : Int) := by
  rw [← Int.natCast_mul]
  exact IntWalk.wrap64_in _ (by omega)
theorem add_lt_step {S U o r : Nat} (hS : S < U) (hr : r < o) : S + r * U < U * o := by
  have h : (r + 1) * U ≤ o * U := Nat.mul_le_mul_right _ hr
  rw [Nat.add_mul, Nat.one_mul] at h
  rw [Nat.mul_comm U o]; omega
theorem wrap_sum {S U o X Y : Nat} (hS : S < U) (ho : 2 ≤ o) (hU : U * o ≤ 24) : wrap64 ((S : Int) + wrap64 (((X : Int) + (Y : Int)) % (o : Int) * (U : Int))) = ((S + (X + Y) % o * U : Nat) : Int) := by
  have h := add_lt_step (o := o) hS (Nat.mod_lt (X + Y) (show o > 0 by omega))
  have e : ((X : Int) + (Y : Int)) % (o : Int) * (U : Int) = (((X + Y) % o * U : Nat) : Int) := by simp
  rw [e]
  generalize (X + Y) % o * U = q at *
  rw [IntWalk.wrap64_in (q : Int) (by omega), IntWalk.wrap64_in _ (by omega)]
  simp
theorem addN_step {m : List Nat} {k X Y S U x y : Nat} (hk : k < m.length) (h : S + U * addN (m.drop k) X Y = addN m x y) :
    S + (X + Y) % m.getD k 0 * U + U * m.getD k 0 * addN (m.drop (k + 1)) (X / m.getD k 0) (Y / m.getD k 0) = addN m x y := by
  rw [← h, drop_cons m 0 k hk]
  generalize m.getD k 0 = o
  simp only [addN]
  rw [Nat.mul_add, Nat.mul_assoc, Nat.mul_comm U ((X % o + Y % o) % o), ← Nat.add_mod, Nat.add_assoc]
theorem addN_end {m : List Nat} {k X Y S U x y : Nat} (hk : m.length ≤ k) (h : S + U * addN (m.drop k) X Y = addN m x y) : S = addN m x y := by
  rw [← h, List.drop_of_length_le hk]; simp [addN]

set_option maxHeartbeats 400000 in
theorem add_any (b off cap : Nat) (m : List Nat) (x y : Nat) (w : World) (hm : Ok m) (hx : x ≤ 16777216) (hy : y ≤ 16777216) (hg : GrpAt w b off (cst m)) :
    Calls Try.prog 137 #[.agg #[.slice (some ⟨b, off, none⟩) (cst m).length cap], .int .i64 x, .int .i64 y] w fun e w' => e = .returned (.int .i64 (addN m x y : Nat)) ∧ Below w.heap.size w w' := by
  have hst := St.init cap 26 hg
  have hlen : (cst m).length ≤ 3 := by rw [cst_length]; exact hm.len
  go_enter Try.func137, Try.ntmps137
  go_wp2
  go_loopw [1, 2, 7, 8, 14] (fun x1 y1 s u i wr => ∃ k X Y S U : Nat, k ≤ (cst m).length ∧ i = .int .i64 k ∧ x1 = .int .i64 X ∧ y1 = .int .i64 Y ∧ s = .int .i64 S ∧ u = .int .i64 U ∧ X ≤ 16777216 ∧ Y ≤ 16777216 ∧ S < U ∧ Hid (U = prodN (m.take k)) ∧ Hid (S + U * addN (m.drop k) X Y = addN m x y) ∧ St w b off cap (cst m) wr) (fun _ _ _ _ i _ => (cst m).length - (intOf i).toNat)
  case atStart => exact ⟨0, x, y, 0, 1, by omega, rfl, rfl, rfl, rfl, rfl, hx, hy, by omega, rfl, by simp [Hid], hst⟩
  case round =>
    rename_i wr
    obtain ⟨k, X, Y, S, U, hk, rfl, rfl, rfl, rfl, rfl, hX, hY, hS, hU, hrel, hstr⟩ := hrel
    by_cases hlt : k < (cst m).length
    · have hck := hstr.grp.nat k hlt
      have hltm : k < m.length := by rw [← cst_length m]; exact hlt
      have ho := hm.ath hltm
      have hU24 : U * m.getD k 0 ≤ 24 := by rw [hU.out]; exact hm.step_le hltm
      have hU' : Hid (U * m.getD k 0 = prodN (m.take (k + 1))) := by unfold Hid; rw [hU.out, prodN_step m k hltm]
      have hn := hid (addN_step hltm hrel.out)
      have hlt' : S + (X + Y) % m.getD k 0 * U < U * m.getD k 0 := add_lt_step hS (Nat.mod_lt _ (by omega))
      have hwS := hid (wrap_sum (X := X) (Y := Y) hS ho.1 hU24)
      have hm1 := mod_bd X ho.1
      have hm2 := mod_bd Y ho.1
      have hd1 := Nat.div_le_self X (m.getD k 0)
      have hd2 := Nat.div_le_self Y (m.getD k 0)
      generalize m.getD k 0 = o at *
      have hl1 := hid hU24
      have hl2 := hid hlt'
      clear hU24 hlt'
      go_wp2
      go_quiet (fail)
      go_wp2
      go_quiet (fail)
      go_wp2
      go_roundw
      case rel => exact ⟨k + 1, X / o, Y / o, S + (X + Y) % o * U, U * o, by omega, by go_num, val_i (wrap_div hX), val_i (wrap_div hY), val_i hwS.out, val_i (wrap_mul (by have := hl1.out; omega)), by omega, by omega, hl2.out, hU', hn, hstr.drewN _⟩
      case measure => simp [intOf]; omega
    · have hend := hid (addN_end (by rw [← cst_length m]; omega) hrel.out)
      go_wp2
      go_ret
      exact ⟨ret_i (by rw [hend.out]), hstr.below⟩
set_option maxHeartbeats 400000 in
theorem l2Add_any (b off cap : Nat) (m : List Nat) (x y : Nat) (w : World) (hm : Ok m) (hx : x ≤ 16777216) (hy : y ≤ 16777216) (hg : GrpAt w b off (cst m)) :
    Calls Try.prog 146 #[.agg #[.slice (some ⟨b, off, none⟩) (cst m).length cap], .int .i64 x, .int .i64 y] w fun e w' => e = .returned (.int .i64 (addN m x y : Nat)) ∧ Below w.heap.size w w' := by
  have hst := St.init cap 26 hg
  have hlen : (cst m).length ≤ 3 := by rw [cst_length]; exact hm.len
  go_enter Try.func146, Try.ntmps146
  go_wp2
  go_loopw [1, 2, 7, 8, 9] (fun x1 y1 s u i wr => ∃ k X Y S U : Nat, k ≤ (cst m).length ∧ i = .int .i64 k ∧ x1 = .int .i64 X ∧ y1 = .int .i64 Y ∧ s = .int .i64 S ∧ u = .int .i64 U ∧ X ≤ 16777216 ∧ Y ≤ 16777216 ∧ S < U ∧ Hid (U = prodN (m.take k)) ∧ Hid (S + U * addN (m.drop k) X Y = addN m x y) ∧ St w b off cap (cst m) wr) (fun _ _ _ _ i _ => (cst m).length - (intOf i).toNat)
  case atStart => exact ⟨0, x, y, 0, 1, by omega, rfl, rfl, rfl, rfl, rfl, hx, hy, by omega, rfl, by simp [Hid], hst⟩
  case round =>
    rename_i wr
    obtain ⟨k, X, Y, S, U, hk, rfl, rfl, rfl, rfl, rfl, hX, hY, hS, hU, hrel, hstr⟩ := hrel
    have hbox := hstr.box
    by_cases hlt : k < (cst m).length
    · have hck := hstr.grp.nat k hlt
      have hltm : k < m.length := by rw [← cst_length m]; exact hlt
      have ho := hm.ath hltm
      have hU24 : U * m.getD k 0 ≤ 24 := by rw [hU.out]; exact hm.step_le hltm
      have hU' : Hid (U * m.getD k 0 = prodN (m.take (k + 1))) := by unfold Hid; rw [hU.out, prodN_step m k hltm]
      have hn := hid (addN_step hltm hrel.out)
      have hlt' : S + (X + Y) % m.getD k 0 * U < U * m.getD k 0 := add_lt_step hS (Nat.mod_lt _ (by omega))
      have hwS := hid (wrap_sum (X := X) (Y := Y) hS ho.1 hU24)
      have hm1 := mod_bd X ho.1
      have hm2 := mod_bd Y ho.1
      have hd1 := Nat.div_le_self X (m.getD k 0)
      have hd2 := Nat.div_le_self Y (m.getD k 0)
      generalize m.getD k 0 = o at *
      have hl1 := hid hU24
      have hl2 := hid hlt'
      clear hU24 hlt'
      go_wp2
      go_quiet (fail)
      go_wp2
      go_roundw
      case rel => exact ⟨k + 1, X / o, Y / o, S + (X + Y) % o * U, U * o, by omega, by go_num, val_i (wrap_div hX), val_i (wrap_div hY), val_i hwS.out, val_i (wrap_mul (by have := hl1.out; omega)), by omega, by omega, hl2.out, hU', hn, hstr.drewN _⟩
      case measure => simp [intOf]; omega
    · have hend := hid (addN_end (by rw [← cst_length m]; omega) hrel.out)
      go_wp2
      go_ret
      exact ⟨ret_i (by rw [hend.out]), hstr.below⟩
end Go.Proofs.Ytpflnmcecnbilaa
