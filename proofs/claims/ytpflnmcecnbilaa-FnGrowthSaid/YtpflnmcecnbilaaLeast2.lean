/-
  Contracts: the part of a set with the least ratio, as the reference finds it.
-/
import Derived.Test.YtpflnmcecnbilaaLeast
namespace Go.Proofs.Ytpflnmcecnbilaa
open Go.RowKit

set_option maxHeartbeats 2000000 in
theorem sLeastRatio_any (b off cap : Nat) (l : List Int) (x y : Int) (w : World) (hl : l.length ≤ 1099511627776) (hg : GrpAt w b off l) :
    Calls Try.prog 13 #[.agg #[.slice (some ⟨b, off, none⟩) l.length cap], .int .i64 x, .int .i64 y] w fun e w' => e = .returned (.tuple #[.int .i64 (lrF l x y), .bool (lrOk l x y)]) ∧ Below w.heap.size w w' := by
  have hst := St.init cap 26 hg
  clear hg
  by_cases h : lrOk l x y = true
  · have h0 := lrOk_yes h
    obtain ⟨hf, h10⟩ := h0
    obtain ⟨y1, y2, y3, y4⟩ := full_yes hf
    have hf0 := full_iff.1 hf
    obtain ⟨m, A, B, hm, rfl, rfl, rfl, hA, hB, hA0, _⟩ := hf0
    rw [Int.toNat_natCast] at h10
    have hr := hid (lrF_yes h)
    have hk := hid h
    have hA' := Nat.lt_of_lt_of_le hA hm.pow_le
    have hB' := Nat.lt_of_lt_of_le hB hm.pow_le
    have h0' := hid hA0
    clear hA hB h hA0 hf
    go_enter Try.func13, Try.ntmps13
    go_wp2_with (first | (go_at_call 64; refine (sIsSet_any _ _ _ _ _ _ hl (St.grp (by assumption))).mono ?_; rintro e wN ⟨rfl, hbN⟩; have hstN := St.step (by assumption) hbN; have hboxN := hstN.box; clear hbN) | (go_at_call 116; refine (l3Bits_any _ _ (by omega)).mono ?_; rintro e wN ⟨rfl, rfl⟩))
    have hst1 : St w b off cap (cst m) wN := by assumption
    clear hst hboxN
    go_loopw [8, 9] (fun v u wr => ∃ X Y : Nat, u = .int .i64 X ∧ v = .int .i64 Y ∧ X ≤ A ∧ Y ≤ A ∧ Hid (sdiff X A = 0) ∧ Hid (bestFrom m A B Y X) ∧ St w b off cap (cst m) wr) (fun _ u _ => (intOf u).toNat)
    case atStart => exact ⟨A, 0, rfl, rfl, by omega, by omega, part_and.2 (Nat.and_self A), .inl ⟨rfl, rfl⟩, hst1⟩
    case round =>
      clear hst1
      rename_i wr
      obtain ⟨X, Y, rfl, rfl, hXA, hYA, hsd, hbest, hstr⟩ := hrel
      have hbox := hstr.box
      by_cases hX0 : 0 < X
      · have hX24 : X < 16777216 := by omega
        have hbit : bits BinOp.and IntKind.i64 ((X : Int) - 1) (A : Int) = (((X - 1) &&& A : Nat) : Int) := by
          rw [show ((X : Int) - 1) = ((X - 1 : Nat) : Int) from by omega]; exact bits_and_nat _ _ (by omega) (by omega)
        have hpart : part A X := ⟨by omega, hsd.out⟩
        have hn := next_lt hpart
        have hsd' : Hid (sdiff ((X - 1) &&& A) A = 0) := part_and.2 (by rw [Nat.and_assoc, Nat.and_self])
        by_cases hY0 : Y = 0
        · subst hY0
          have hb' := hid (bestFrom_first hbest.out hpart)
          clear hpart
          generalize (X - 1) &&& A = Z at *
          go_wp2
          go_roundw
          case rel => exact ⟨Z, X, rfl, rfl, by omega, hXA, hsd', hb', hstr⟩
          case measure => simp [intOf]; omega
        · have hY0b : ((Y : Int) == 0) = false := by rw [beq_eq_false_iff_ne]; omega
          have hYp := (bestFrom_part hbest.out hY0).1
          have hY24 : Y < 16777216 := by omega
          have c1 := card_le X
          have c2 := card_le Y
          have c5 := card_le (sumN m X B)
          have c6 := card_le (sumN m Y B)
          have c7 := sumN_lt hm X B
          have c8 := sumN_lt hm Y B
          have hm1 := mul24 c5 c2
          have hm2 := mul24 c6 c1
          have hXY := (bestFrom_part hbest.out hY0).2
          have htk : Hid (bet (ratF m B) card X Y → bestFrom m A B X ((X - 1) &&& A)) := fun hb => bestFrom_take hA' hbest.out hY0 hpart hb
          have hkp : Hid (¬ bet (ratF m B) card X Y → bestFrom m A B Y ((X - 1) &&& A)) := fun hb => bestFrom_keep hbest.out hY0 hpart hb
          have hdef : Hid (bet (ratF m B) card X Y ↔ (card (sumN m X B) * card Y < card (sumN m Y B) * card X ∨ (card (sumN m X B) * card Y = card (sumN m Y B) * card X ∧ (card Y < card X ∨ (card X = card Y ∧ X < Y))))) := Iff.rfl
          clear hpart hYp hY0
          generalize (X - 1) &&& A = Z at *
          rcases Nat.lt_trichotomy (card (sumN m X B) * card Y) (card (sumN m Y B) * card X) with hc | hc | hc
          · have hb' := hid (htk.out (hdef.out.2 (.inl hc)))
            have hci : ((card (sumN m X B) : Nat) : Int) * ((card Y : Nat) : Int) < ((card (sumN m Y B) : Nat) : Int) * ((card X : Nat) : Int) := by rw [← Int.natCast_mul, ← Int.natCast_mul]; omega
            clear hc
            go_wp2_with (first | (go_at_call 117; refine (l4Sum_any _ _ _ _ _ _ _ hm (by omega) (by omega) (St.grp (by assumption))).mono ?_; rintro e wN ⟨rfl, hbN⟩; have hstN := St.step (by assumption) hbN; have hboxN := hstN.box; clear hbN) | (go_at_call 116; refine (l3Bits_any _ _ (by omega)).mono ?_; rintro e wN ⟨rfl, rfl⟩))
            have hst2 : St w b off cap (cst m) wN := by assumption
            go_roundw
            case rel => exact ⟨Z, X, rfl, rfl, by omega, hXA, hsd', hb', hst2⟩
            case measure => simp [intOf]; omega
          · have hci : (((card (sumN m X B) : Nat) : Int) * ((card Y : Nat) : Int) == ((card (sumN m Y B) : Nat) : Int) * ((card X : Nat) : Int)) = true := by rw [beq_iff_eq, ← Int.natCast_mul, ← Int.natCast_mul]; omega
            have hci2 : decide (((card (sumN m X B) : Nat) : Int) * ((card Y : Nat) : Int) < ((card (sumN m Y B) : Nat) : Int) * ((card X : Nat) : Int)) = false := by rw [decide_eq_false_iff_not, ← Int.natCast_mul, ← Int.natCast_mul]; omega
            have hci3 : ¬ ((card (sumN m X B) : Nat) : Int) * ((card Y : Nat) : Int) < ((card (sumN m Y B) : Nat) : Int) * ((card X : Nat) : Int) := by rw [← Int.natCast_mul, ← Int.natCast_mul]; omega
            rcases Nat.lt_trichotomy (card Y) (card X) with hgt | hgt | hgt
            · have hb' := hid (htk.out (hdef.out.2 (.inr ⟨hc, .inl hgt⟩)))
              clear hc
              go_wp2_with (first | (go_at_call 117; refine (l4Sum_any _ _ _ _ _ _ _ hm (by omega) (by omega) (St.grp (by assumption))).mono ?_; rintro e wN ⟨rfl, hbN⟩; have hstN := St.step (by assumption) hbN; have hboxN := hstN.box; clear hbN) | (go_at_call 116; refine (l3Bits_any _ _ (by omega)).mono ?_; rintro e wN ⟨rfl, rfl⟩))
              have hst2 : St w b off cap (cst m) wN := by assumption
              go_roundw
              case rel => exact ⟨Z, X, rfl, rfl, by omega, hXA, hsd', hb', hst2⟩
              case measure => simp [intOf]; omega
            · have hb' := hid (htk.out (hdef.out.2 (.inr ⟨hc, .inr ⟨hgt.symm, hXY⟩⟩)))
              have heq : (((card X : Nat) : Int) == ((card Y : Nat) : Int)) = true := by rw [beq_iff_eq]; omega
              have hngt : ¬ ((card Y : Nat) : Int) < ((card X : Nat) : Int) := by omega
              have hXYi : (X : Int) < (Y : Int) := by omega
              clear hc hgt
              go_wp2_with (first | (go_at_call 117; refine (l4Sum_any _ _ _ _ _ _ _ hm (by omega) (by omega) (St.grp (by assumption))).mono ?_; rintro e wN ⟨rfl, hbN⟩; have hstN := St.step (by assumption) hbN; have hboxN := hstN.box; clear hbN) | (go_at_call 116; refine (l3Bits_any _ _ (by omega)).mono ?_; rintro e wN ⟨rfl, rfl⟩))
              have hst2 : St w b off cap (cst m) wN := by assumption
              go_roundw
              case rel => exact ⟨Z, X, rfl, rfl, by omega, hXA, hsd', hb', hst2⟩
              case measure => simp [intOf]; omega
            · have hb' := hid (hkp.out (fun hb => by have h1 := hdef.out.1 hb; omega))
              have heq : (((card X : Nat) : Int) == ((card Y : Nat) : Int)) = false := by rw [beq_eq_false_iff_ne]; omega
              clear hc
              go_wp2_with (first | (go_at_call 117; refine (l4Sum_any _ _ _ _ _ _ _ hm (by omega) (by omega) (St.grp (by assumption))).mono ?_; rintro e wN ⟨rfl, hbN⟩; have hstN := St.step (by assumption) hbN; have hboxN := hstN.box; clear hbN) | (go_at_call 116; refine (l3Bits_any _ _ (by omega)).mono ?_; rintro e wN ⟨rfl, rfl⟩))
              have hst2 : St w b off cap (cst m) wN := by assumption
              go_roundw
              case rel => exact ⟨Z, Y, rfl, rfl, by omega, hYA, hsd', hb', hst2⟩
              case measure => simp [intOf]; omega
          · have hb' := hid (hkp.out (fun hb => by have h1 := hdef.out.1 hb; omega))
            have hci : (((card (sumN m X B) : Nat) : Int) * ((card Y : Nat) : Int) == ((card (sumN m Y B) : Nat) : Int) * ((card X : Nat) : Int)) = false := by rw [beq_eq_false_iff_ne, ← Int.natCast_mul, ← Int.natCast_mul]; omega
            have hci3 : ((card (sumN m Y B) : Nat) : Int) * ((card X : Nat) : Int) < ((card (sumN m X B) : Nat) : Int) * ((card Y : Nat) : Int) := by rw [← Int.natCast_mul, ← Int.natCast_mul]; omega
            clear hc
            go_wp2_with (first | (go_at_call 117; refine (l4Sum_any _ _ _ _ _ _ _ hm (by omega) (by omega) (St.grp (by assumption))).mono ?_; rintro e wN ⟨rfl, hbN⟩; have hstN := St.step (by assumption) hbN; have hboxN := hstN.box; clear hbN) | (go_at_call 116; refine (l3Bits_any _ _ (by omega)).mono ?_; rintro e wN ⟨rfl, rfl⟩))
            have hst2 : St w b off cap (cst m) wN := by assumption
            go_roundw
            case rel => exact ⟨Z, Y, rfl, rfl, by omega, hYA, hsd', hb', hst2⟩
            case measure => simp [intOf]; omega
      · have he : Hid (leastN m A B = Y) := bestFrom_end hA' h0'.out (by have h1 := hbest.out; rwa [show X = 0 from by omega] at h1)
        go_wp2
        go_ret2
        exact ⟨ret_ibL (by rw [hr.out, he.out]) hk.out.symm, hstr.below⟩
  · have hn : lrOk l x y = false := by simpa using h
    have hr := hid (lrF_no hn)
    have hk := hid hn
    rcases lrOk_no hn with h1 | ⟨h1, h2⟩
    · clear h hn
      rcases full_no h1 with h3 | ⟨h3, h4⟩ | ⟨h3, h4, h5⟩ | ⟨h3, h4, h5, h6⟩
      all_goals
        go_enter Try.func13, Try.ntmps13
        go_wp2_with (first | (go_at_call 64; refine (sIsSet_any _ _ _ _ _ _ hl (St.grp (by assumption))).mono ?_; rintro e wN ⟨rfl, hbN⟩; have hstN := St.step (by assumption) hbN; have hboxN := hstN.box; clear hbN))
        go_ret2
        exact ⟨ret_ibL hr.out.symm hk.out.symm, St.below (by assumption)⟩
    · obtain ⟨y1, y2, y3, y4⟩ := full_yes h1
      have hf0 := full_iff.1 h1
      obtain ⟨m, A, B, hm, rfl, rfl, rfl, hA, hB, hA0, _⟩ := hf0
      rw [Int.toNat_natCast] at h2
      have hA' := Nat.lt_of_lt_of_le hA hm.pow_le
      clear h hn hA hB
      go_enter Try.func13, Try.ntmps13
      go_wp2_with (first | (go_at_call 64; refine (sIsSet_any _ _ _ _ _ _ hl (St.grp (by assumption))).mono ?_; rintro e wN ⟨rfl, hbN⟩; have hstN := St.step (by assumption) hbN; have hboxN := hstN.box; clear hbN) | (go_at_call 116; refine (l3Bits_any _ _ (by omega)).mono ?_; rintro e wN ⟨rfl, rfl⟩))
      go_ret2
      exact ⟨ret_ibL hr.out.symm hk.out.symm, St.below (by assumption)⟩
end Go.Proofs.Ytpflnmcecnbilaa
