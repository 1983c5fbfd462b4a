/-
  Contracts: the bound of Kneser.
-/
import Derived.Test.YtpflnmcecnbilaaStab
import Derived.Test.YtpflnmcecnbilaaBits
import Derived.Test.YtpflnmcecnbilaaCard
namespace Go.Proofs.Ytpflnmcecnbilaa
open Go.RowKit

theorem bound_wrap {a b c : Nat} (ha : a ≤ 24) (hb : b ≤ 24) (hc : c ≤ 24) : IntKind.i64.wrap (IntKind.i64.wrap ((a : Int) + (b : Int)) - (c : Int)) = (a : Int) + (b : Int) - (c : Int) := by
  rw [IntKind.wrap_i64, IntKind.wrap_i64]; omega
def knH (m : List Nat) (A B : Nat) : Nat := stabN m (sumN m A B)
theorem knH_lt (m : List Nat) (A B : Nat) : knH m A B < 2 ^ prodN m := stabN_lt _
def knB (m : List Nat) (A B : Nat) : Int := ((card (sumN m (knH m A B) A) : Nat) : Int) + (card (sumN m (knH m A B) B) : Nat) - (card (knH m A B) : Nat)
theorem knB_ge {m : List Nat} (hm : Ok m) {A B : Nat} (hA : A < 2 ^ prodN m) (h : A ≠ 0) : 0 ≤ knB m A B := by
  have := card_sum_ge hm (knH_lt m A B) hA h
  unfold knB; omega
def kneserF (l : List Int) (a b : Int) : Int := if full l a b = true then knB (toN l) a.toNat b.toNat else -1
theorem kneserF_yes {m : List Nat} {A B : Nat} (h : full (cst m) A B = true) : kneserF (cst m) A B = knB m A B := by
  unfold kneserF; rw [if_pos h, toN_cst, Int.toNat_natCast, Int.toNat_natCast]
theorem kneserF_no {l : List Int} {a b : Int} (h : full l a b = false) : kneserF l a b = -1 := by unfold kneserF; rw [if_neg (by simp [h])]
def pairH (l : List Int) (a b : Int) : Int := if full l a b = true then (knH (toN l) a.toNat b.toNat : Nat) else 0
def pairX (l : List Int) (a b : Int) : Int := if full l a b = true then (sumN (toN l) (knH (toN l) a.toNat b.toNat) a.toNat : Nat) else 0
def pairY (l : List Int) (a b : Int) : Int := if full l a b = true then (sumN (toN l) (knH (toN l) a.toNat b.toNat) b.toNat : Nat) else 0
theorem pair_yes {m : List Nat} {A B : Nat} (h : full (cst m) A B = true) : pairH (cst m) A B = (knH m A B : Nat) ∧ pairX (cst m) A B = (sumN m (knH m A B) A : Nat) ∧ pairY (cst m) A B = (sumN m (knH m A B) B : Nat) := by
  unfold pairH pairX pairY; rw [if_pos h, if_pos h, if_pos h, toN_cst, Int.toNat_natCast, Int.toNat_natCast]; exact ⟨rfl, rfl, rfl⟩
theorem pair_no {l : List Int} {a b : Int} (h : full l a b = false) : pairH l a b = 0 ∧ pairX l a b = 0 ∧ pairY l a b = 0 := by
  unfold pairH pairX pairY; rw [if_neg (by simp [h]), if_neg (by simp [h]), if_neg (by simp [h])]; exact ⟨rfl, rfl, rfl⟩
theorem ret_4 {a b c a' b' c' : Int} {d d' : Bool} (h1 : a = a') (h2 : b = b') (h3 : c = c') (h4 : d = d') :
    Ending.returned (.tuple #[.int .i64 a, .int .i64 b, .int .i64 c, .bool d]) = .returned (.tuple #[.int .i64 a', .int .i64 b', .int .i64 c', .bool d']) := by rw [h1, h2, h3, h4]
set_option maxHeartbeats 400000 in
theorem kneserPair_any (b off cap : Nat) (l : List Int) (x y : Int) (w : World) (hl : l.length ≤ 1099511627776) (hg : GrpAt w b off l) :
    Calls Try.prog 88 #[.agg #[.slice (some ⟨b, off, none⟩) l.length cap], .int .i64 x, .int .i64 y] w fun e w' => e = .returned (.tuple #[.int .i64 (pairH l x y), .int .i64 (pairX l x y), .int .i64 (pairY l x y), .bool (full l x y)]) ∧ Below w.heap.size w w' := by
  have hst := St.init cap 26 hg
  by_cases hf : full l x y = true
  · have hf0 := full_iff.1 hf
    obtain ⟨m, A, B, hm, rfl, rfl, rfl, hA, hB, _, _⟩ := hf0
    have hr := hid (pair_yes hf)
    have hA' := Nat.lt_of_lt_of_le hA hm.pow_le
    have hB' := Nat.lt_of_lt_of_le hB hm.pow_le
    have hS := hm.sum_lt A B
    have hH : knH m A B < 16777216 := Nat.lt_of_lt_of_le (knH_lt m A B) hm.pow_le
    clear hA hB
    go_enter Try.func88, Try.ntmps88
    go_wp2_with (first | (go_at_call 113; refine (areFull_any _ _ _ _ _ _ _ hl (St.grp (by assumption))).mono ?_; rintro e wN ⟨rfl, hbN⟩; have hstN := St.step (by assumption) hbN; have hboxN := hstN.box; clear hbN))
    have hst0 : St w b off cap (cst m) wN := by assumption
    have hst1 := hst0.drew
    clear hst hst0 hboxN
    go_region_held3 (fun w' => w'.cell? ⟨w.heap.size, 0, none⟩ = some (.slice (some ⟨b, off, none⟩) (cst m).length cap) ∧ St w b off cap (cst m) w') (first | exact ⟨hst1.box, hst1⟩ | exact St.keep (by assumption) hb1 | assumption)
      (first | (go_at_call 115; refine (sum_any _ _ _ _ _ _ _ hm (by omega) (by omega) (St.grpOf (by assumption))).mono ?_; rintro e w1 ⟨rfl, hb1⟩) | (go_at_call 164; refine (stabilizerOf_yes _ _ _ _ _ _ hm hS (St.grpOf (by assumption))).mono ?_; rintro e w1 ⟨rfl, hb1⟩))
    have hst2 : St w b off cap (cst m) w1 := And.right (by assumption)
    have hst3 := hst2.drew
    clear hst1 hst2
    rw [show stabN m (sumN m A B) = knH m A B from rfl]
    go_wp2
    go_region_held3 (fun w' => w'.cell? ⟨w.heap.size, 0, none⟩ = some (.slice (some ⟨b, off, none⟩) (cst m).length cap) ∧ St w b off cap (cst m) w') (first | exact ⟨hst3.box, hst3⟩ | exact St.keep (by assumption) hb1 | assumption) (first | (go_at_call 115; refine (sum_any _ _ _ _ _ _ _ hm (by omega) (by omega) (St.grpOf (by assumption))).mono ?_; rintro e w1 ⟨rfl, hb1⟩))
    have hst4 : St w b off cap (cst m) w1 := And.right (by assumption)
    go_wp2
    exact bodyPost_ret (v := .tuple #[.int .i64 (knH m A B : Nat), .int .i64 (sumN m (knH m A B) A : Nat), .int .i64 (sumN m (knH m A B) B : Nat), .bool true]) (by simp [results, Try.results88, go_sem]) rfl ⟨ret_4 hr.out.1.symm hr.out.2.1.symm hr.out.2.2.symm hf.symm, hst4.below⟩
  · have hf' : full l x y = false := by simpa using hf
    have hr := hid (pair_no hf')
    clear hf
    go_enter Try.func88, Try.ntmps88
    go_wp2_with (first | (go_at_call 113; refine (areFull_any _ _ _ _ _ _ _ hl (St.grp (by assumption))).mono ?_; rintro e wN ⟨rfl, hbN⟩; have hstN := St.step (by assumption) hbN; have hboxN := hstN.box; clear hbN))
    exact bodyPost_ret (v := .tuple #[.int .i64 0, .int .i64 0, .int .i64 0, .bool false]) (by simp [results, Try.results88, go_sem]) rfl ⟨ret_4 hr.out.1.symm hr.out.2.1.symm hr.out.2.2.symm hf'.symm, St.below (by assumption)⟩
set_option maxHeartbeats 400000 in
theorem kneserBound_any (b off cap : Nat) (l : List Int) (x y : Int) (w : World) (hl : l.length ≤ 1099511627776) (hg : GrpAt w b off l) :
    Calls Try.prog 167 #[.agg #[.slice (some ⟨b, off, none⟩) l.length cap], .int .i64 x, .int .i64 y] w fun e w' => e = .returned (.int .i64 (kneserF l x y)) ∧ Below w.heap.size w w' := by
  have hst := St.init cap 26 hg
  by_cases hf : full l x y = true
  · have hf0 := full_iff.1 hf
    obtain ⟨m, A, B, hm, rfl, rfl, rfl, hA, hB, _, _⟩ := hf0
    have hr : Hid (kneserF (cst m) A B = ((card (sumN m (knH m A B) A) : Nat) : Int) + (card (sumN m (knH m A B) B) : Nat) - (card (knH m A B) : Nat)) := kneserF_yes hf
    have hp := pair_yes hf
    have hH : knH m A B < 16777216 := Nat.lt_of_lt_of_le (knH_lt m A B) hm.pow_le
    have hX := sumN_lt hm (knH m A B) A
    have hY := sumN_lt hm (knH m A B) B
    have c1 := card_le (sumN m (knH m A B) A)
    have c2 := card_le (sumN m (knH m A B) B)
    have c3 := card_le (knH m A B)
    go_enter Try.func167, Try.ntmps167
    go_wp2_with fail
    refine (kneserPair_any _ _ _ _ _ _ _ hl hst.grp).mono ?_; rintro e w1 ⟨rfl, hb1⟩; have hst1 := hst.step hb1
    rw [hp.1, hp.2.1, hp.2.2]
    clear hp hst hb1
    go_wp2_with (first | (go_at_call 114; refine (bits_any _ _ (by omega)).mono ?_; rintro e wN ⟨rfl, rfl⟩))
    go_ret
    exact ⟨ret_i (by rw [hr.out]), hst1.below⟩
  · have hf' : full l x y = false := by simpa using hf
    have hr := hid (kneserF_no hf')
    clear hf
    go_enter Try.func167, Try.ntmps167
    go_wp2_with fail
    refine (kneserPair_any _ _ _ _ _ _ _ hl hst.grp).mono ?_; rintro e w1 ⟨rfl, hb1⟩; have hst1 := hst.step hb1
    go_wp2
    go_ret
    exact ⟨ret_i (by rw [hr.out]), hst1.below⟩
set_option maxHeartbeats 1000000 in
theorem sKneserBound_any (b off cap : Nat) (l : List Int) (x y : Int) (w : World) (hl : l.length ≤ 1099511627776) (hg : GrpAt w b off l) :
    Calls Try.prog 165 #[.agg #[.slice (some ⟨b, off, none⟩) l.length cap], .int .i64 x, .int .i64 y] w fun e w' => e = .returned (.int .i64 (kneserF l x y)) ∧ Below w.heap.size w w' := by
  have hst := St.init cap 26 hg
  by_cases hf : full l x y = true
  · have hf0 := full_iff.1 hf
    obtain ⟨y1, y2, y3, y4⟩ := full_yes hf
    obtain ⟨m, A, B, hm, rfl, rfl, rfl, hA, hB, _, _⟩ := hf0
    have hr : Hid (kneserF (cst m) A B = ((card (sumN m A (knH m A B)) : Nat) : Int) + (card (sumN m B (knH m A B)) : Nat) - (card (knH m A B) : Nat)) := by
      unfold Hid; rw [kneserF_yes hf, knB, sumN_comm m _ A, sumN_comm m _ B]
    have hA' := Nat.lt_of_lt_of_le hA hm.pow_le
    have hB' := Nat.lt_of_lt_of_le hB hm.pow_le
    have hS := sumN_lt hm A B
    have hH : knH m A B < 16777216 := Nat.lt_of_lt_of_le (knH_lt m A B) hm.pow_le
    have hX := sumN_lt hm A (knH m A B)
    have hY := sumN_lt hm B (knH m A B)
    have c1 := card_le (sumN m A (knH m A B))
    have c2 := card_le (sumN m B (knH m A B))
    have c3 := card_le (knH m A B)
    clear hA hB
    go_enter Try.func165, Try.ntmps165
    go_wp2_with (first | (go_at_call 64; refine (sIsSet_any _ _ _ _ _ _ hl (St.grp (by assumption))).mono ?_; rintro e wN ⟨rfl, hbN⟩; have hstN := St.step (by assumption) hbN; have hboxN := hstN.box; clear hbN))
    have hst0 : St w b off cap (cst m) wN := by assumption
    have hst1 := hst0.drew
    clear hst hst0 hboxN
    go_region_held3 (fun w' => w'.cell? ⟨w.heap.size, 0, none⟩ = some (.slice (some ⟨b, off, none⟩) (cst m).length cap) ∧ St w b off cap (cst m) w') (first | exact ⟨hst1.box, hst1⟩ | exact St.keep (by assumption) hb1 | assumption) (first | (go_at_call 117; refine (l4Sum_any _ _ _ _ _ _ _ hm (by omega) (by omega) (St.grpOf (by assumption))).mono ?_; rintro e w1 ⟨rfl, hb1⟩) | (go_at_call 166; refine (l6Stabilizer_any _ _ _ _ _ _ hm (by omega) (St.grpOf (by assumption))).mono ?_; rintro e w1 ⟨rfl, hb1⟩))
    have hst2 : St w b off cap (cst m) w1 := And.right (by assumption)
    have hst3 := hst2.drew
    clear hst1 hst2
    rw [show stabN m (sumN m A B) = knH m A B from rfl]
    go_wp2
    have hw := hid (bound_wrap c1 c2 c3)
    go_region_held3 (fun w' => w'.cell? ⟨w.heap.size, 0, none⟩ = some (.slice (some ⟨b, off, none⟩) (cst m).length cap) ∧ St w b off cap (cst m) w') (first | exact ⟨hst3.box, hst3⟩ | exact St.keep (by assumption) hb1 | assumption) (first | (go_at_call 117; refine (l4Sum_any _ _ _ _ _ _ _ hm (by omega) (by omega) (St.grpOf (by assumption))).mono ?_; rintro e w1 ⟨rfl, hb1⟩) | (go_at_call 116; refine (l3Bits_any _ _ (by omega)).mono ?_; rintro e w1 ⟨rfl, rfl⟩))
    have hst4 : St w b off cap (cst m) w1 := And.right (by assumption)
    go_wp2
    go_ret
    exact ⟨ret_i (by rw [hr.out]; first | exact hw.out | rfl), hst4.below⟩
  · have hf' : full l x y = false := by simpa using hf
    have hr := hid (kneserF_no hf')
    clear hf
    rcases full_no hf' with h1 | ⟨h1, h2⟩ | ⟨h1, h2, h3⟩ | ⟨h1, h2, h3, h4⟩
    all_goals
      go_enter Try.func165, Try.ntmps165
      go_wp2_with (first | (go_at_call 64; refine (sIsSet_any _ _ _ _ _ _ hl (St.grp (by assumption))).mono ?_; rintro e wN ⟨rfl, hbN⟩; have hstN := St.step (by assumption) hbN; have hboxN := hstN.box; clear hbN))
      go_ret
      exact ⟨ret_i (by rw [hr.out]), St.below (by assumption)⟩
set_option maxHeartbeats 400000 in
theorem sKneserPair_any (b off cap : Nat) (l : List Int) (x y : Int) (w : World) (hl : l.length ≤ 1099511627776) (hg : GrpAt w b off l) :
    Calls Try.prog 89 #[.agg #[.slice (some ⟨b, off, none⟩) l.length cap], .int .i64 x, .int .i64 y] w fun e w' => e = .returned (.tuple #[.int .i64 (pairH l x y), .int .i64 (pairX l x y), .int .i64 (pairY l x y), .bool (full l x y)]) ∧ Below w.heap.size w w' := by
  have hst := St.init cap 26 hg
  by_cases hf : full l x y = true
  · have hf0 := full_iff.1 hf
    obtain ⟨m, A, B, hm, rfl, rfl, rfl, hA, hB, hA0, _⟩ := hf0
    have hr := hid (pair_yes hf)
    have hge : 0 ≤ kneserF (cst m) A B := by rw [kneserF_yes hf]; exact knB_ge hm hA hA0
    have hA' := Nat.lt_of_lt_of_le hA hm.pow_le
    have hB' := Nat.lt_of_lt_of_le hB hm.pow_le
    have hS := sumN_lt hm A B
    have hH : knH m A B < 16777216 := Nat.lt_of_lt_of_le (knH_lt m A B) hm.pow_le
    clear hA hB
    go_enter Try.func89, Try.ntmps89
    go_wp2_with (first | (go_at_call 165; refine (sKneserBound_any _ _ _ _ _ _ _ hl (St.grp (by assumption))).mono ?_; rintro e wN ⟨rfl, hbN⟩; have hstN := St.step (by assumption) hbN; have hboxN := hstN.box; clear hbN))
    have hst0 : St w b off cap (cst m) wN := by assumption
    have hst1 := hst0.drew
    clear hst hst0 hboxN
    go_region_held3 (fun w' => w'.cell? ⟨w.heap.size, 0, none⟩ = some (.slice (some ⟨b, off, none⟩) (cst m).length cap) ∧ St w b off cap (cst m) w') (first | exact ⟨hst1.box, hst1⟩ | exact St.keep (by assumption) hb1 | assumption) (first | (go_at_call 117; refine (l4Sum_any _ _ _ _ _ _ _ hm (by omega) (by omega) (St.grpOf (by assumption))).mono ?_; rintro e w1 ⟨rfl, hb1⟩) | (go_at_call 166; refine (l6Stabilizer_any _ _ _ _ _ _ hm (by omega) (St.grpOf (by assumption))).mono ?_; rintro e w1 ⟨rfl, hb1⟩))
    have hst2 : St w b off cap (cst m) w1 := And.right (by assumption)
    have hst3 := hst2.drew
    clear hst1 hst2
    rw [show stabN m (sumN m A B) = knH m A B from rfl]
    go_wp2
    go_region_held3 (fun w' => w'.cell? ⟨w.heap.size, 0, none⟩ = some (.slice (some ⟨b, off, none⟩) (cst m).length cap) ∧ St w b off cap (cst m) w') (first | exact ⟨hst3.box, hst3⟩ | exact St.keep (by assumption) hb1 | assumption) (first | (go_at_call 117; refine (l4Sum_any _ _ _ _ _ _ _ hm (by omega) (by omega) (St.grpOf (by assumption))).mono ?_; rintro e w1 ⟨rfl, hb1⟩))
    have hst4 : St w b off cap (cst m) w1 := And.right (by assumption)
    go_wp2
    exact bodyPost_ret (v := .tuple #[.int .i64 (knH m A B : Nat), .int .i64 (sumN m A (knH m A B) : Nat), .int .i64 (sumN m B (knH m A B) : Nat), .bool true]) (by simp [results, Try.results89, go_sem]) rfl
      ⟨ret_4 hr.out.1.symm (by rw [hr.out.2.1, sumN_comm]) (by rw [hr.out.2.2, sumN_comm]) hf.symm, hst4.below⟩
  · have hf' : full l x y = false := by simpa using hf
    have hr := hid (pair_no hf')
    have hlt : kneserF l x y < 0 := by rw [kneserF_no hf']; omega
    clear hf
    go_enter Try.func89, Try.ntmps89
    go_wp2_with (first | (go_at_call 165; refine (sKneserBound_any _ _ _ _ _ _ _ hl (St.grp (by assumption))).mono ?_; rintro e wN ⟨rfl, hbN⟩; have hstN := St.step (by assumption) hbN; have hboxN := hstN.box; clear hbN))
    exact bodyPost_ret (v := .tuple #[.int .i64 0, .int .i64 0, .int .i64 0, .bool false]) (by simp [results, Try.results89, go_sem]) rfl ⟨ret_4 hr.out.1.symm hr.out.2.1.symm hr.out.2.2.symm hf'.symm, St.below (by assumption)⟩
end Go.Proofs.Ytpflnmcecnbilaa
