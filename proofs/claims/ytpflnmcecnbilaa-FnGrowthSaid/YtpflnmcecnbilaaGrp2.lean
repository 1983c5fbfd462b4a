/-
  Contracts: the order as the reference reckons it; elements; sets.
-/
import Derived.Test.YtpflnmcecnbilaaGrp
namespace Go.Proofs.Ytpflnmcecnbilaa
open Go.RowKit

set_option maxHeartbeats 400000 in
theorem l2Order_any (b off cap : Nat) (m : List Nat) (w : World) (hm : Ok m) (hg : GrpAt w b off (cst m)) :
    Calls Try.prog 120 #[.agg #[.slice (some ⟨b, off, none⟩) (cst m).length cap]] w fun e w' => e = .returned (.int .i64 (prodN m : Nat)) ∧ Below w.heap.size w w' := by
  have hst := St.init cap 26 hg
  have hlen : (cst m).length ≤ 3 := by rw [cst_length]; exact hm.len
  have hc := hst.grp.nat
  go_enter Try.func120, Try.ntmps120
  go_wp2
  go_loop [3, 4] (fun n i => ∃ k : Nat, k ≤ (cst m).length ∧ i = .int .i64 k ∧ n = .int .i64 (prodN (m.take k) : Nat)) (fun _ i => (cst m).length - (intOf i).toNat)
  case atStart => exact ⟨0, by omega, rfl, rfl⟩
  case round =>
    obtain ⟨k, hk, rfl, rfl⟩ := hrel
    by_cases hlt : k < (cst m).length
    · have hck := hc k hlt
      have hltm : k < m.length := by rw [← cst_length m]; exact hlt
      have hs : Hid (prodN (m.take (k + 1)) = prodN (m.take k) * m.getD k 0) := prodN_step m k hltm
      have hb := hm.step_le hltm
      clear hc
      generalize m.getD k 0 = o at *
      generalize prodN (m.take k) = p at *
      have hbi : ((p : Int) * o) ≤ 24 := by have : ((p * o : Nat) : Int) ≤ 24 := by omega
                                            simpa using this
      have hb0 : 0 ≤ ((p : Int) * o) := Int.mul_nonneg (by omega) (by omega)
      go_wp2
      go_round
      case rel => exact ⟨k + 1, by omega, by go_num, by rw [hs.out]; go_num⟩
      case measure => simp [intOf]; omega
    · have ht : Hid (prodN (m.take k) = prodN m) := by rw [List.take_of_length_le (by rw [← cst_length m]; omega)]; rfl
      clear hc
      generalize prodN (m.take k) = p at *
      go_wp2
      go_ret
      exact ⟨ret_i (by rw [ht.out]), hst.below⟩
theorem sOrderOf_no (b off cap : Nat) (l : List Int) (w : World) (hl : l.length ≤ 1099511627776) (hg : GrpAt w b off l) (hn : grp l = false) :
    Calls Try.prog 84 #[.agg #[.slice (some ⟨b, off, none⟩) l.length cap]] w fun e w' => e = .returned (.int .i64 0) ∧ Below w.heap.size w w' := by
  have hst := St.init cap 26 hg
  go_enter Try.func84, Try.ntmps84
  go_wp2_with (go_at_call 119; refine (sIsGroup_any _ _ _ _ _ hl hst.grp).mono ?_; rintro e w1 ⟨rfl, hb1⟩; have hst1 := hst.step hb1)
  go_ret
  exact ⟨rfl, hst1.below⟩
set_option maxHeartbeats 400000 in
theorem sOrderOf_yes (b off cap : Nat) (m : List Nat) (w : World) (hm : Ok m) (hg : GrpAt w b off (cst m)) :
    Calls Try.prog 84 #[.agg #[.slice (some ⟨b, off, none⟩) (cst m).length cap]] w fun e w' => e = .returned (.int .i64 (prodN m : Nat)) ∧ Below w.heap.size w w' := by
  have hst := St.init cap 26 hg
  have hlen : (cst m).length ≤ 3 := by rw [cst_length]; exact hm.len
  have hok := ok_grp hm
  go_enter Try.func84, Try.ntmps84
  go_wp2_with fail
  refine (sIsGroup_any _ _ _ _ _ (by omega) hst.grp).mono ?_; rintro e w1 ⟨rfl, hb1⟩; have hst1 := hst.step hb1; have hbox := hst1.box
  go_wp2_with fail
  refine (l2Order_any _ _ _ _ _ hm hst1.grp).mono ?_; rintro e w2 ⟨rfl, hb2⟩; have hst2 := hst1.step hb2
  go_wp2
  go_ret
  exact ⟨rfl, hst2.below⟩
/-- a number is an element -/
def isEl (l : List Int) (x : Int) : Bool := grp l && decide (0 ≤ x) && decide (x < prodI l)
theorem isEl_no {l : List Int} (h : grp l = false) (x : Int) : isEl l x = false := by simp [isEl, h]
theorem isEl_yes {m : List Nat} (h : Ok m) (x : Int) : isEl (cst m) x = (decide (0 ≤ x) && decide (x < (prodN m : Nat))) := by simp [isEl, ok_grp h, prodI_cst]
theorem isEl_iff {l : List Int} {x : Int} : isEl l x = true ↔ ∃ m X, Ok m ∧ l = cst m ∧ x = ((X : Nat) : Int) ∧ X < prodN m := by
  constructor
  · intro h
    simp only [isEl, Bool.and_eq_true, decide_eq_true_eq] at h
    obtain ⟨m, hm, rfl⟩ := grp_ok h.1.1
    rw [prodI_cst] at h
    exact ⟨m, x.toNat, hm, rfl, by omega, by omega⟩
  · rintro ⟨m, X, hm, rfl, rfl, hX⟩
    rw [isEl_yes hm]; simp; omega
set_option maxHeartbeats 400000 in
theorem has_any (b off cap : Nat) (l : List Int) (x : Int) (w : World) (hl : l.length ≤ 1099511627776) (hg : GrpAt w b off l) :
    Calls Try.prog 145 #[.agg #[.slice (some ⟨b, off, none⟩) l.length cap], .int .i64 x] w fun e w' => e = .returned (.bool (isEl l x)) ∧ Below w.heap.size w w' := by
  have hst := St.init cap 26 hg
  by_cases hgr : grp l = true
  · obtain ⟨m, hm, rfl⟩ := grp_ok hgr
    have he := hid (isEl_yes hm x)
    have hp := hm.pos
    have hp24 := hm.ord
    go_enter Try.func145, Try.ntmps145
    go_wp2_with fail
    refine (orderOf_yes _ _ _ _ _ hm hst.grp).mono ?_; rintro e w1 ⟨rfl, hb1⟩; have hst1 := hst.step hb1
    generalize prodN m = p at *
    go_wp2_with (go_at_call 121; refine (within_any _ _ _ _).mono ?_; rintro e w' ⟨rfl, rfl⟩)
    go_ret
    refine ⟨ret_b ?_, hst1.below⟩
    rw [he.out, inB, Bool.eq_iff_iff]; simp; omega
  · have hn : grp l = false := by simpa using hgr
    have he := hid (isEl_no hn x)
    go_enter Try.func145, Try.ntmps145
    go_wp2_with fail
    refine (orderOf_no _ _ _ _ _ hl hst.grp hn).mono ?_; rintro e w1 ⟨rfl, hb1⟩; have hst1 := hst.step hb1
    go_wp2_with (go_at_call 121; refine (within_any _ _ _ _).mono ?_; rintro e w' ⟨rfl, rfl⟩)
    go_ret
    refine ⟨ret_b ?_, hst1.below⟩
    rw [he.out, inB, Bool.eq_false_iff]; simp; omega
set_option maxHeartbeats 400000 in
theorem l2Is_any (b off cap : Nat) (l : List Int) (x : Int) (w : World) (hl : l.length ≤ 1099511627776) (hg : GrpAt w b off l) :
    Calls Try.prog 139 #[.agg #[.slice (some ⟨b, off, none⟩) l.length cap], .int .i64 x] w fun e w' => e = .returned (.bool (isEl l x)) ∧ Below w.heap.size w w' := by
  have hst := St.init cap 26 hg
  by_cases hx : 0 ≤ x
  · by_cases hgr : grp l = true
    · obtain ⟨m, hm, rfl⟩ := grp_ok hgr
      have he := hid (isEl_yes hm x)
      go_enter Try.func139, Try.ntmps139
      go_wp2_with fail
      refine (sOrderOf_yes _ _ _ _ _ hm hst.grp).mono ?_; rintro e w1 ⟨rfl, hb1⟩; have hst1 := hst.step hb1
      go_wp2
      go_ret
      refine ⟨ret_b ?_, hst1.below⟩
      rw [he.out]; simp [hx]
    · have hn : grp l = false := by simpa using hgr
      have he := hid (isEl_no hn x)
      go_enter Try.func139, Try.ntmps139
      go_wp2_with fail
      refine (sOrderOf_no _ _ _ _ _ hl hst.grp hn).mono ?_; rintro e w1 ⟨rfl, hb1⟩; have hst1 := hst.step hb1
      go_wp2
      go_ret
      refine ⟨ret_b ?_, hst1.below⟩
      rw [he.out]; simp; omega
  · have hx' : x < 0 := by omega
    have he : Hid (isEl l x = false) := by simp [Hid, isEl, hx]
    go_enter Try.func139, Try.ntmps139
    go_wp2
    go_ret
    exact ⟨ret_b (by rw [he.out]), hst.below⟩
/-- a number is a set -/
def isSetB (l : List Int) (a : Int) : Bool := grp l && decide (0 ≤ a) && decide (a < ((pw (prodI l).toNat : Nat) : Int))
theorem isSetB_no {l : List Int} (h : grp l = false) (a : Int) : isSetB l a = false := by simp [isSetB, h]
theorem isSetB_neg (l : List Int) {a : Int} (h : a < 0) : isSetB l a = false := by simp [isSetB]; omega
theorem isSetB_yes {m : List Nat} (h : Ok m) {a : Int} (ha : 0 ≤ a) : isSetB (cst m) a = decide (a < ((pw (prodN m) : Nat) : Int)) := by simp [isSetB, ok_grp h, prodI_cst, ha]
theorem isSetB_iff {l : List Int} {a : Int} : isSetB l a = true ↔ ∃ m A, Ok m ∧ l = cst m ∧ a = ((A : Nat) : Int) ∧ A < 2 ^ prodN m := by
  constructor
  · intro h
    simp only [isSetB, Bool.and_eq_true, decide_eq_true_eq] at h
    obtain ⟨m, hm, rfl⟩ := grp_ok h.1.1
    rw [prodI_cst, Int.toNat_natCast, pw_eq] at h
    exact ⟨m, a.toNat, hm, rfl, by omega, by omega⟩
  · rintro ⟨m, A, hm, rfl, rfl, hA⟩
    rw [← pw_eq] at hA; rw [isSetB_yes hm (by omega)]; simp; omega
theorem isSetB_nat {m : List Nat} (h : Ok m) {A : Nat} (hA : A < 2 ^ prodN m) : isSetB (cst m) (A : Int) = true := isSetB_iff.2 ⟨m, A, h, rfl, rfl, hA⟩
set_option maxHeartbeats 400000 in
theorem isSet_any (b off cap : Nat) (l : List Int) (a : Int) (w : World) (hl : l.length ≤ 1099511627776) (hg : GrpAt w b off l) :
    Calls Try.prog 132 #[.agg #[.slice (some ⟨b, off, none⟩) l.length cap], .int .i64 a] w fun e w' => e = .returned (.bool (isSetB l a)) ∧ Below w.heap.size w w' := by
  have hst := St.init cap 26 hg
  by_cases hgr : grp l = true
  · obtain ⟨m, hm, rfl⟩ := grp_ok hgr
    by_cases ha : 0 ≤ a
    · have he := hid (isSetB_yes hm ha)
      have hp24 := hm.ord
      have hsh := shl1 (x := prodN m) (by omega)
      have hsl := pw_le hp24
      go_enter Try.func132, Try.ntmps132
      go_wp2_with fail
      refine (isGroup_any _ _ _ _ _ hl hst.grp).mono ?_; rintro e w1 ⟨rfl, hb1⟩; have hst1 := hst.step hb1; have hbox := hst1.box
      go_wp2_with fail
      refine (orderOf_yes _ _ _ _ _ hm hst1.grp).mono ?_; rintro e w2 ⟨rfl, hb2⟩; have hst2 := hst1.step hb2
      generalize pw (prodN m) = P at *
      generalize prodN m = p at *
      go_wp2
      go_ret
      exact ⟨ret_b (by rw [he.out]), hst2.below⟩
    · have hn : a < 0 := by omega
      have he := hid (isSetB_neg (cst m) hn)
      go_enter Try.func132, Try.ntmps132
      go_wp2_with fail
      refine (isGroup_any _ _ _ _ _ hl hst.grp).mono ?_; rintro e w1 ⟨rfl, hb1⟩; have hst1 := hst.step hb1
      go_wp2
      go_ret
      exact ⟨ret_b (by rw [he.out]), hst1.below⟩
  · have hn : grp l = false := by simpa using hgr
    have he := hid (isSetB_no hn a)
    go_enter Try.func132, Try.ntmps132
    go_wp2_with fail
    refine (isGroup_any _ _ _ _ _ hl hst.grp).mono ?_; rintro e w1 ⟨rfl, hb1⟩; have hst1 := hst.step hb1
    go_wp2
    go_ret
    exact ⟨ret_b (by rw [he.out]), hst1.below⟩
set_option maxHeartbeats 400000 in
theorem sIsSet_any (b off cap : Nat) (l : List Int) (a : Int) (w : World) (hl : l.length ≤ 1099511627776) (hg : GrpAt w b off l) :
    Calls Try.prog 64 #[.agg #[.slice (some ⟨b, off, none⟩) l.length cap], .int .i64 a] w fun e w' => e = .returned (.bool (isSetB l a)) ∧ Below w.heap.size w w' := by
  have hst := St.init cap 26 hg
  by_cases hgr : grp l = true
  · obtain ⟨m, hm, rfl⟩ := grp_ok hgr
    have he : Hid (isSetB (cst m) a = (decide (0 ≤ a) && decide (a < ((pw (prodN m) : Nat) : Int)))) := by
      simp [Hid, isSetB, ok_grp hm, prodI_cst]
    have hp24 := hm.ord
    have hsh := shl1 (x := prodN m) (by omega)
    have hsl := pw_le hp24
    go_enter Try.func64, Try.ntmps64
    go_wp2_with fail
    refine (sIsGroup_any _ _ _ _ _ hl hst.grp).mono ?_; rintro e w1 ⟨rfl, hb1⟩; have hst1 := hst.step hb1; have hbox := hst1.box
    go_wp2_with fail
    refine (l2Order_any _ _ _ _ _ hm hst1.grp).mono ?_; rintro e w2 ⟨rfl, hb2⟩; have hst2 := hst1.step hb2
    generalize pw (prodN m) = P at *
    generalize prodN m = p at *
    go_wp2_with (go_at_call 128; refine (l1In_any _ _ _ _).mono ?_; rintro e w' ⟨rfl, rfl⟩)
    go_ret
    refine ⟨ret_b ?_, hst2.below⟩
    rw [he.out, inB, Bool.eq_iff_iff]; simp; omega
  · have hn : grp l = false := by simpa using hgr
    have he := hid (isSetB_no hn a)
    go_enter Try.func64, Try.ntmps64
    go_wp2_with fail
    refine (sIsGroup_any _ _ _ _ _ hl hst.grp).mono ?_; rintro e w1 ⟨rfl, hb1⟩; have hst1 := hst.step hb1
    go_wp2
    go_ret
    exact ⟨ret_b (by rw [he.out]), hst1.below⟩
end Go.Proofs.Ytpflnmcecnbilaa
