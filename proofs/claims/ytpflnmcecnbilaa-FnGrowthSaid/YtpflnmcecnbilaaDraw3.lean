/-
  Contracts of the reference's drawing: elements, sets.
-/
import Derived.Test.YtpflnmcecnbilaaDraw2
import Derived.Test.YtpflnmcecnbilaaPrime
namespace Go.Proofs.Ytpflnmcecnbilaa
open Go.RowKit

theorem box_new (w : World) (v : Value) (t : TypeId) : (w.alloc (.cells #[v] t)).cell? ⟨w.heap.size, 0, none⟩ = some v := by rw [World.cell?_alloc_at _ _ _ _ rfl]; rfl
def I64 (x : Int) : Prop := -9223372036854775808 ≤ x ∧ x < 9223372036854775808
/-- a call that draws a number -/
def DrewI (w : World) (C : Nat) (e : Ending) (w' : World) : Prop := ∃ x, e = .returned (.int .i64 x) ∧ I64 x ∧ Drew w C w'
theorem pick3 (a b c : Int) (ha : I64 a) (hb : I64 b) (hc : I64 c) (k : Nat) (hk : k < [a, b, c].length) : I64 ([a, b, c].getD k 0) := by
  have h : k = 0 ∨ k = 1 ∨ k = 2 := by simp at hk; omega
  rcases h with rfl | rfl | rfl
  · exact ha
  · exact hb
  · exact hc
theorem or_pw {A N z : Nat} (hA : A < 16777216) (hz : z < N) (hN : N ≤ 24) : ∃ B : Nat, B < 16777216 ∧ Hid (bits BinOp.or IntKind.i64 (A : Int) ((pw z : Nat) : Int) = ((B : Nat) : Int)) := by
  have hp : pw z < 2 ^ 24 := by rw [pw_eq]; exact Nat.pow_lt_pow_right (by omega) (by omega)
  exact ⟨A ||| pw z, Nat.or_lt_two_pow (n := 24) hA hp, bits_or_nat A (pw z) (by omega) (by omega)⟩
set_option maxHeartbeats 2000000 in
theorem l3Set_any (C b off cap : Nat) (l : List Int) (w : World) (hc : Cur w C) (hl : l.length ≤ 1099511627776) (hg : GrpAt w b off l) :
    Calls Try.prog 161 #[.pointer (some ⟨C, 0, none⟩), .agg #[.slice (some ⟨b, off, none⟩) l.length cap]] w (DrewI w C) := by
  have hCw := hc.lt
  have hd0 := (Drew.refl hc).alloc (.cells #[.slice (some ⟨b, off, none⟩) l.length cap] 26)
  have hg0 := hg.alloc (.cells #[.slice (some ⟨b, off, none⟩) l.length cap] 26)
  have hN24 := ordN_le l
  by_cases h1 : 1 < ordN l
  · have h1I : (1 : Int) < (ordN l : Int) := by omega
    go_enter Try.func161, Try.ntmps161
    go_wp2_with fail
    refine (sOrderOf_any _ _ _ _ _ hl hg0).mono ?_; rintro e w1 ⟨rfl, hb1⟩; have hd1 := hd0.step hb1
    clear hd0 hg0 hg hb1
    go_wp2_with fail
    refine (l1Below_any C 6 w1 (by omega) (by omega) hd1.cur).mono ?_; rintro e w2 ⟨k0, hk0, rfl, hd2⟩; have hd3 := hd1.trans hd2
    clear hd1 hd2
    go_wp2_with fail
    go_loopw [6, 7] (fun a k wr => ∃ A K : Nat, a = .int .i64 A ∧ k = .int .i64 K ∧ K ≤ 5 ∧ A < 16777216 ∧ Drew w C wr) (fun _ k _ => (intOf k).toNat)
    case atStart => exact ⟨0, k0, rfl, rfl, by omega, by omega, hd3⟩
    case round =>
      clear hd3
      rename_i wr
      obtain ⟨A, K, rfl, rfl, hK, hA, hd3⟩ := hrel
      by_cases hk : 0 < K
      · have hkI : (0 : Int) < (K : Int) := by omega
        go_wp2_with fail
        refine (l1Below_any C (ordN l) wr (by omega) (by omega) hd3.cur).mono ?_; rintro e w3 ⟨z, hz, rfl, hd4⟩; have hd5 := hd3.trans hd4
        have hs := shl1m (x := z) (by omega)
        have hs2 := shl1 (x := z) (by omega)
        have hs3 := shl1k (x := z) (by omega)
        obtain ⟨B, hB, ho⟩ := or_pw hA hz (by omega)
        have ho' := ho.out
        clear hd3 hd4
        go_wp2_with fail
        clear ho' hs hs2 hs3
        go_roundw
        case rel => exact ⟨B, K - 1, rfl, by go_num, by omega, hB, hd5⟩
        case measure => simp [intOf]; omega
      · have hkI : ¬ (0 : Int) < (K : Int) := by omega
        go_wp2_with fail
        refine (l1Below_any C 20 wr (by omega) (by omega) hd3.cur).mono ?_; rintro e w3 ⟨z, hz, rfl, hd4⟩; have hd5 := hd3.trans hd4
        clear hd3 hd4
        by_cases hz0 : z = 0
        · subst hz0
          have hs := shl1m (x := (ordN l)) (by omega)
          have hs2 := shl1 (x := (ordN l)) (by omega)
          have hs3 := shl1k (x := (ordN l)) (by omega)
          have hp := pw_le (x := (ordN l)) (by omega)
          go_wp2_with fail
          go_ret
          exact ⟨_, rfl, ⟨by omega, by omega⟩, hd5⟩
        by_cases hz1 : z = 1
        · subst hz1
          have hgp := grp_new w3 [-1, 16777216, 9223372036854775807] 3
          have hd6 := hd5.alloc (.cells #[.int .i64 (-1), .int .i64 16777216, .int .i64 9223372036854775807] 3)
          have hw3 := hd5.gr.size
          go_wp2_with fail
          refine (l1PickInt_any C w3.heap.size 3 [-1, 16777216, 9223372036854775807] _ (by simp) (by simp) hd6.cur hgp (by omega)).mono ?_; rintro e w7 ⟨k, hk, rfl, hd7⟩
          have hx := pick3 (-1) 16777216 9223372036854775807 ⟨by omega, by omega⟩ ⟨by omega, by omega⟩ ⟨by omega, by omega⟩ k hk
          generalize ([-1, 16777216, 9223372036854775807] : List Int).getD k 0 = x at *
          have hd8 := hd6.trans hd7
          clear hd5 hd6 hd7 hgp hk
          go_wp2_with fail
          go_ret
          exact ⟨x, rfl, hx, hd8⟩
        · have b0 : ((z : Int) == 0) = false := by rw [beq_eq_false_iff_ne]; omega
          have b1 : ((z : Int) == 1) = false := by rw [beq_eq_false_iff_ne]; omega
          go_wp2_with fail
          go_ret
          exact ⟨A, rfl, ⟨by omega, by omega⟩, hd5⟩
  · have h1I : (ordN l : Int) ≤ 1 := by omega
    go_enter Try.func161, Try.ntmps161
    go_wp2_with fail
    refine (sOrderOf_any _ _ _ _ _ hl hg0).mono ?_; rintro e w1 ⟨rfl, hb1⟩; have hd1 := hd0.step hb1
    clear hd0 hg0 hg hb1
    go_wp2_with fail
    refine (l1Below_any C 6 w1 (by omega) (by omega) hd1.cur).mono ?_; rintro e w2 ⟨k0, hk0, rfl, hd2⟩; have hd3 := hd1.trans hd2
    clear hd1 hd2
    go_wp2_with fail
    go_loopw [6, 7] (fun a k wr => ∃ A K : Nat, a = .int .i64 A ∧ k = .int .i64 K ∧ K ≤ 5 ∧ A < 16777216 ∧ Drew w C wr) (fun _ k _ => (intOf k).toNat)
    case atStart => exact ⟨0, k0, rfl, rfl, by omega, by omega, hd3⟩
    case round =>
      clear hd3
      rename_i wr
      obtain ⟨A, K, rfl, rfl, hK, hA, hd3⟩ := hrel
      by_cases hk : 0 < K
      · have hkI : (0 : Int) < (K : Int) := by omega
        go_wp2_with fail
        refine (l1Below_any C 1 wr (by omega) (by omega) hd3.cur).mono ?_; rintro e w3 ⟨z, hz, rfl, hd4⟩; have hd5 := hd3.trans hd4
        have hs := shl1m (x := z) (by omega)
        have hs2 := shl1 (x := z) (by omega)
        have hs3 := shl1k (x := z) (by omega)
        obtain ⟨B, hB, ho⟩ := or_pw hA hz (by omega)
        have ho' := ho.out
        clear hd3 hd4
        go_wp2_with fail
        clear ho' hs hs2 hs3
        go_roundw
        case rel => exact ⟨B, K - 1, rfl, by go_num, by omega, hB, hd5⟩
        case measure => simp [intOf]; omega
      · have hkI : ¬ (0 : Int) < (K : Int) := by omega
        go_wp2_with fail
        refine (l1Below_any C 20 wr (by omega) (by omega) hd3.cur).mono ?_; rintro e w3 ⟨z, hz, rfl, hd4⟩; have hd5 := hd3.trans hd4
        clear hd3 hd4
        by_cases hz0 : z = 0
        · subst hz0
          have hs := shl1m (x := 1) (by omega)
          have hs2 := shl1 (x := 1) (by omega)
          have hs3 := shl1k (x := 1) (by omega)
          have hp := pw_le (x := 1) (by omega)
          go_wp2_with fail
          go_ret
          exact ⟨_, rfl, ⟨by omega, by omega⟩, hd5⟩
        by_cases hz1 : z = 1
        · subst hz1
          have hgp := grp_new w3 [-1, 16777216, 9223372036854775807] 3
          have hd6 := hd5.alloc (.cells #[.int .i64 (-1), .int .i64 16777216, .int .i64 9223372036854775807] 3)
          have hw3 := hd5.gr.size
          go_wp2_with fail
          refine (l1PickInt_any C w3.heap.size 3 [-1, 16777216, 9223372036854775807] _ (by simp) (by simp) hd6.cur hgp (by omega)).mono ?_; rintro e w7 ⟨k, hk, rfl, hd7⟩
          have hx := pick3 (-1) 16777216 9223372036854775807 ⟨by omega, by omega⟩ ⟨by omega, by omega⟩ ⟨by omega, by omega⟩ k hk
          generalize ([-1, 16777216, 9223372036854775807] : List Int).getD k 0 = x at *
          have hd8 := hd6.trans hd7
          clear hd5 hd6 hd7 hgp hk
          go_wp2_with fail
          go_ret
          exact ⟨x, rfl, hx, hd8⟩
        · have b0 : ((z : Int) == 0) = false := by rw [beq_eq_false_iff_ne]; omega
          have b1 : ((z : Int) == 1) = false := by rw [beq_eq_false_iff_ne]; omega
          go_wp2_with fail
          go_ret
          exact ⟨A, rfl, ⟨by omega, by omega⟩, hd5⟩
set_option maxHeartbeats 2000000 in
theorem l2Element_any (C b off cap : Nat) (l : List Int) (w : World) (hc : Cur w C) (hl : l.length ≤ 1099511627776) (hg : GrpAt w b off l) (hne : b ≠ C) :
    Calls Try.prog 179 #[.pointer (some ⟨C, 0, none⟩), .agg #[.slice (some ⟨b, off, none⟩) l.length cap]] w (DrewI w C) := by
  have hCw := hc.lt
  have hd0 := (Drew.refl hc).alloc (.cells #[.slice (some ⟨b, off, none⟩) l.length cap] 26)
  have hg0 := hg.alloc (.cells #[.slice (some ⟨b, off, none⟩) l.length cap] 26)
  have hb0 := box_new w (.slice (some ⟨b, off, none⟩) l.length cap) 26
  have hs0 : w.heap.size < (w.alloc (.cells #[.slice (some ⟨b, off, none⟩) l.length cap] 26)).heap.size := by simp
  have hN24 := ordN_le l
  go_enter Try.func179, Try.ntmps179
  go_wp2_with fail
  refine (l1Once_any C 16 _ (by omega) (by omega) hd0.cur).mono ?_; rintro e w1 ⟨t, rfl, hd1⟩
  have hg1 := hd1.grp hg0 hne
  have hb1 := (hd1.at (b := w.heap.size) (j := 0) hs0 (by omega)).trans hb0
  have hd2 := hd0.trans hd1
  have hs1 := hd2.gr.size
  clear hb0 hg0 hd0 hd1 hg
  cases t
  · go_wp2_with fail
    refine (sOrderOf_any _ _ _ _ _ hl hg1).mono ?_; rintro e w3 ⟨rfl, hb3⟩; have hd3 := hd2.step hb3
    by_cases h1 : 1 < ordN l
    · have h1I : (1 : Int) < (ordN l : Int) := by omega
      go_wp2_with fail
      refine (l1Below_any C (ordN l) w3 (by omega) (by omega) hd3.cur).mono ?_; rintro e w4 ⟨z, hz, rfl, hd4⟩
      have hd5 := hd3.trans hd4
      clear hd3 hd4 hb3 hb1
      go_wp2_with fail
      go_ret
      exact ⟨z, rfl, ⟨by omega, by omega⟩, hd5⟩
    · have h1I : (ordN l : Int) ≤ 1 := by omega
      go_wp2_with fail
      refine (l1Below_any C 1 w3 (by omega) (by omega) hd3.cur).mono ?_; rintro e w4 ⟨z, hz, rfl, hd4⟩
      have hd5 := hd3.trans hd4
      clear hd3 hd4 hb3 hb1
      go_wp2_with fail
      go_ret
      exact ⟨z, rfl, ⟨by omega, by omega⟩, hd5⟩
  · have hgp := grp_new w1 [-1, 24, 9223372036854775807] 3
    have hd6 := hd2.alloc (.cells #[.int .i64 (-1), .int .i64 24, .int .i64 9223372036854775807] 3)
    go_wp2_with fail
    refine (l1PickInt_any C w1.heap.size 3 [-1, 24, 9223372036854775807] _ (by simp) (by simp) hd6.cur hgp (by omega)).mono ?_; rintro e w7 ⟨k, hk, rfl, hd7⟩
    have hx := pick3 (-1) 24 9223372036854775807 ⟨by omega, by omega⟩ ⟨by omega, by omega⟩ ⟨by omega, by omega⟩ k hk
    generalize ([-1, 24, 9223372036854775807] : List Int).getD k 0 = x at *
    have hd8 := hd6.trans hd7
    clear hd2 hd6 hd7 hgp hk hb1
    go_wp2_with fail
    go_ret
    exact ⟨x, rfl, hx, hd8⟩
end Go.Proofs.Ytpflnmcecnbilaa
