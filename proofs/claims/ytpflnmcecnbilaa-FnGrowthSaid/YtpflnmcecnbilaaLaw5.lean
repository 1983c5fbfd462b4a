/-
  Contracts: what the laws themselves reckon; the reference's sizes, sums, negatives, hulls.
-/
import Derived.Test.YtpflnmcecnbilaaDraw
import Derived.Test.YtpflnmcecnbilaaStab
import Derived.Test.YtpflnmcecnbilaaMulti
namespace Go.Proofs.Ytpflnmcecnbilaa
open Go.RowKit

theorem big_any (a : Option Addr) (n cp : Nat) (w : World) :
    Calls Try.prog 10 #[.slice a n cp] w fun e w' => e = .returned (.bool (decide (1048576 < (n : Int)))) ∧ w = w' := by
  go_enter Try.func10, Try.ntmps10
  go_wp2
  go_ret
  exact ⟨rfl, rfl⟩
set_option maxHeartbeats 400000 in
theorem at_any (a : Option Addr) (n cp i : Nat) (w : World) (hn : n ≤ 1048576) (hi : i ≤ 100) (hb : BytesV w a n) :
    Calls Try.prog 15 #[.slice a n cp, .int .i64 (i : Int)] w fun e w' => ∃ z : Nat, z ≤ 255 ∧ e = .returned (.int .i64 (z : Int)) ∧ w = w' := by
  by_cases hlt : i < n
  · rcases hb with h0 | ⟨b, off, rfl, hbl, hcell⟩
    · omega
    obtain ⟨z, hz, hcz⟩ := hcell i hlt
    have hI : (i : Int) < (n : Int) := by omega
    clear hcell
    go_enter Try.func15, Try.ntmps15
    go_wp2
    go_ret
    exact ⟨z, hz, rfl, rfl⟩
  · have hI : ¬ (i : Int) < (n : Int) := by omega
    clear hb
    go_enter Try.func15, Try.ntmps15
    go_wp2
    go_ret
    exact ⟨(i * 37 + n * 11) % 256, by omega, by congr 1, rfl⟩
set_option maxHeartbeats 1000000 in
theorem sameInts_any (g1 c1 g2 c2 : Nat) (L : List Int) (w : World) (hL : L.length ≤ 1048576) (h1 : GrpAt w g1 0 L) (h2 : GrpAt w g2 0 L) :
    Calls Try.prog 29 #[.slice (some ⟨g1, 0, none⟩) L.length c1, .slice (some ⟨g2, 0, none⟩) L.length c2] w fun e w' => e = .returned (.bool true) ∧ Below w.heap.size w w' := by
  go_enter Try.func29, Try.ntmps29
  go_wp2
  go_loopw [5] (fun i wr => ∃ k : Nat, i = .int .i64 k ∧ k ≤ L.length ∧ Below w.heap.size w wr) (fun i _ => L.length - (intOf i).toNat)
  case atStart => exact ⟨0, rfl, by omega, Below.refl _ _⟩
  case round =>
    rename_i wr
    obtain ⟨k, rfl, hk, hbw⟩ := hrel
    by_cases hlt : k < L.length
    · have hk1 := (h1.below hbw).cell0 k hlt
      have hk2 := (h2.below hbw).cell0 k hlt
      generalize L.getD k 0 = x at *
      clear h1 h2
      go_wp2
      go_quiet (fail)
      go_wp2
      go_roundw
      case rel => exact ⟨k + 1, by go_num, by omega, below_drewN hbw _⟩
      case measure => simp [intOf]; omega
    · clear h1 h2
      go_wp2
      go_ret
      exact ⟨rfl, hbw⟩
def fullF (l : List Int) : Int := if grp l = true then ((pw (prodN (toN l)) - 1 : Nat) : Int) else 0
theorem fullF_yes {m : List Nat} (hm : Ok m) : fullF (cst m) = ((pw (prodN m) - 1 : Nat) : Int) := by unfold fullF; rw [if_pos (ok_grp hm), toN_cst]
theorem fullF_no {l : List Int} (h : grp l = false) : fullF l = 0 := by unfold fullF; rw [if_neg (by simp [h])]
set_option maxHeartbeats 400000 in
theorem sFullSet_any (b off cap : Nat) (l : List Int) (w : World) (hl : l.length ≤ 1099511627776) (hg : GrpAt w b off l) :
    Calls Try.prog 16 #[.agg #[.slice (some ⟨b, off, none⟩) l.length cap]] w fun e w' => e = .returned (.int .i64 (fullF l)) ∧ Below w.heap.size w w' := by
  have hst := St.init cap 26 hg
  by_cases hgr : grp l = true
  · obtain ⟨m, hm, rfl⟩ := grp_ok hgr
    have hr := hid (fullF_yes hm)
    have hord := hm.ord
    have hsh := shl1 (x := prodN m) (by omega)
    have hpl := pw_le hord
    go_enter Try.func16, Try.ntmps16
    go_wp2_with (first | (go_at_call 119; refine (sIsGroup_any _ _ _ _ _ hl (St.grp (by assumption))).mono ?_; rintro e wN ⟨rfl, hbN⟩; have hstN := St.step (by assumption) hbN; have hboxN := hstN.box; clear hbN) | (go_at_call 120; refine (l2Order_any _ _ _ _ _ hm (St.grp (by assumption))).mono ?_; rintro e wN ⟨rfl, hbN⟩; have hstN := St.step (by assumption) hbN; have hboxN := hstN.box; clear hbN))
    go_ret
    exact ⟨ret_i (by rw [hr.out]; omega), St.below (by assumption)⟩
  · have hgr' : grp l = false := by simpa using hgr
    have hr := hid (fullF_no hgr')
    clear hgr
    go_enter Try.func16, Try.ntmps16
    go_wp2_with (first | (go_at_call 119; refine (sIsGroup_any _ _ _ _ _ hl (St.grp (by assumption))).mono ?_; rintro e wN ⟨rfl, hbN⟩; have hstN := St.step (by assumption) hbN; have hboxN := hstN.box; clear hbN))
    go_ret
    exact ⟨ret_i (by rw [hr.out]), St.below (by assumption)⟩
def countF (l : List Int) (a : Int) : Int := if isSetB l a = true then (card a.toNat : Nat) else -1
theorem countF_yes {m : List Nat} {A : Nat} (hm : Ok m) (hA : A < 2 ^ prodN m) : countF (cst m) A = (card A : Nat) := by unfold countF; rw [if_pos (isSetB_nat hm hA), Int.toNat_natCast]
theorem countF_no {l : List Int} {a : Int} (h : isSetB l a = false) : countF l a = -1 := by unfold countF; rw [if_neg (by simp [h])]
set_option maxHeartbeats 400000 in
theorem sCountSet_any (b off cap : Nat) (l : List Int) (a : Int) (w : World) (hl : l.length ≤ 1099511627776) (hg : GrpAt w b off l) :
    Calls Try.prog 40 #[.agg #[.slice (some ⟨b, off, none⟩) l.length cap], .int .i64 a] w fun e w' => e = .returned (.int .i64 (countF l a)) ∧ Below w.heap.size w w' := by
  have hst := St.init cap 26 hg
  by_cases hs : isSetB l a = true
  · obtain ⟨m, A, hm, rfl, rfl, hA⟩ := isSetB_iff.1 hs
    have hr := hid (countF_yes hm hA)
    have hA' := Nat.lt_of_lt_of_le hA hm.pow_le
    go_enter Try.func40, Try.ntmps40
    go_wp2_with (first | (go_at_call 64; refine (sIsSet_any _ _ _ _ _ _ hl (St.grp (by assumption))).mono ?_; rintro e wN ⟨rfl, hbN⟩; have hstN := St.step (by assumption) hbN; have hboxN := hstN.box; clear hbN) | (go_at_call 116; refine (l3Bits_any _ _ (by omega)).mono ?_; rintro e wN ⟨rfl, rfl⟩))
    go_ret
    exact ⟨ret_i (by rw [hr.out]), St.below (by assumption)⟩
  · have hs' : isSetB l a = false := by simpa using hs
    have hr := hid (countF_no hs')
    clear hs
    go_enter Try.func40, Try.ntmps40
    go_wp2_with (first | (go_at_call 64; refine (sIsSet_any _ _ _ _ _ _ hl (St.grp (by assumption))).mono ?_; rintro e wN ⟨rfl, hbN⟩; have hstN := St.step (by assumption) hbN; have hboxN := hstN.box; clear hbN))
    go_ret
    exact ⟨ret_i (by rw [hr.out]), St.below (by assumption)⟩
def negF (l : List Int) (x : Int) : Int := if isEl l x = true then (negN (toN l) x.toNat : Nat) else -1
theorem negF_yes {m : List Nat} {x : Nat} (hm : Ok m) (hx : x < prodN m) : negF (cst m) x = (negN m x : Nat) := by
  unfold negF; rw [if_pos (isEl_iff.2 ⟨m, x, hm, rfl, rfl, hx⟩), toN_cst, Int.toNat_natCast]
theorem negF_no {l : List Int} {x : Int} (h : isEl l x = false) : negF l x = -1 := by unfold negF; rw [if_neg (by simp [h])]
set_option maxHeartbeats 400000 in
theorem sNegateElement_any (b off cap : Nat) (l : List Int) (x : Int) (w : World) (hl : l.length ≤ 1099511627776) (hg : GrpAt w b off l) :
    Calls Try.prog 41 #[.agg #[.slice (some ⟨b, off, none⟩) l.length cap], .int .i64 x] w fun e w' => e = .returned (.int .i64 (negF l x)) ∧ Below w.heap.size w w' := by
  have hst := St.init cap 26 hg
  by_cases hs : isEl l x = true
  · obtain ⟨m, X, hm, rfl, rfl, hX⟩ := isEl_iff.1 hs
    have hr := hid (negF_yes hm hX)
    have hord := hm.ord
    go_enter Try.func41, Try.ntmps41
    go_wp2_with (first | (go_at_call 139; refine (l2Is_any _ _ _ _ _ _ hl (St.grp (by assumption))).mono ?_; rintro e wN ⟨rfl, hbN⟩; have hstN := St.step (by assumption) hbN; have hboxN := hstN.box; clear hbN) | (go_at_call 140; refine (l2Negate_any _ _ _ _ _ _ hm (by omega) (St.grp (by assumption))).mono ?_; rintro e wN ⟨rfl, hbN⟩; have hstN := St.step (by assumption) hbN; have hboxN := hstN.box; clear hbN))
    go_ret
    exact ⟨ret_i (by rw [hr.out]), St.below (by assumption)⟩
  · have hs' : isEl l x = false := by simpa using hs
    have hr := hid (negF_no hs')
    clear hs
    go_enter Try.func41, Try.ntmps41
    go_wp2_with (first | (go_at_call 139; refine (l2Is_any _ _ _ _ _ _ hl (St.grp (by assumption))).mono ?_; rintro e wN ⟨rfl, hbN⟩; have hstN := St.step (by assumption) hbN; have hboxN := hstN.box; clear hbN))
    go_ret
    exact ⟨ret_i (by rw [hr.out]), St.below (by assumption)⟩
def sumF (l : List Int) (a b : Int) : Int := if two l a b = true then (sumN (toN l) b.toNat a.toNat : Nat) else -1
theorem sumF_yes {m : List Nat} {A B : Nat} (hm : Ok m) (hA : A < 2 ^ prodN m) (hB : B < 2 ^ prodN m) : sumF (cst m) A B = (sumN m A B : Nat) := by
  unfold sumF; rw [if_pos (two_iff.2 ⟨m, A, B, hm, rfl, rfl, rfl, hA, hB⟩), toN_cst, Int.toNat_natCast, Int.toNat_natCast, sumN_comm]
theorem sumF_no {l : List Int} {a b : Int} (h : two l a b = false) : sumF l a b = -1 := by unfold sumF; rw [if_neg (by simp [h])]
set_option maxHeartbeats 400000 in
theorem sSumOfSets_any (b off cap : Nat) (l : List Int) (x y : Int) (w : World) (hl : l.length ≤ 1099511627776) (hg : GrpAt w b off l) :
    Calls Try.prog 70 #[.agg #[.slice (some ⟨b, off, none⟩) l.length cap], .int .i64 x, .int .i64 y] w fun e w' => e = .returned (.int .i64 (sumF l x y)) ∧ Below w.heap.size w w' := by
  have hst := St.init cap 26 hg
  by_cases h2 : two l x y = true
  · obtain ⟨y1, y2⟩ := two_yes h2
    obtain ⟨m, A, B, hm, rfl, rfl, rfl, hA, hB⟩ := two_iff.1 h2
    have hr := hid (sumF_yes hm hA hB)
    have hA' := Nat.lt_of_lt_of_le hA hm.pow_le
    have hB' := Nat.lt_of_lt_of_le hB hm.pow_le
    clear h2
    go_enter Try.func70, Try.ntmps70
    go_wp2_with (first | (go_at_call 64; refine (sIsSet_any _ _ _ _ _ _ hl (St.grp (by assumption))).mono ?_; rintro e wN ⟨rfl, hbN⟩; have hstN := St.step (by assumption) hbN; have hboxN := hstN.box; clear hbN) | (go_at_call 117; refine (l4Sum_any _ _ _ _ _ _ _ hm (by omega) (by omega) (St.grp (by assumption))).mono ?_; rintro e wN ⟨rfl, hbN⟩; have hstN := St.step (by assumption) hbN; have hboxN := hstN.box; clear hbN))
    go_ret
    exact ⟨ret_i (by rw [hr.out]), St.below (by assumption)⟩
  · have h2' : two l x y = false := by simpa using h2
    have hr := hid (sumF_no h2')
    clear h2
    rcases two_no h2' with h1 | ⟨h1, h3⟩
    all_goals
      go_enter Try.func70, Try.ntmps70
      go_wp2_with (first | (go_at_call 64; refine (sIsSet_any _ _ _ _ _ _ hl (St.grp (by assumption))).mono ?_; rintro e wN ⟨rfl, hbN⟩; have hstN := St.step (by assumption) hbN; have hboxN := hstN.box; clear hbN))
      go_ret
      exact ⟨ret_i (by rw [hr.out]), St.below (by assumption)⟩
end Go.Proofs.Ytpflnmcecnbilaa
