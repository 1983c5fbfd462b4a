/-
  Contracts: sums of a set with itself.
-/
import Derived.Test.YtpflnmcecnbilaaSum
import Derived.Test.YtpflnmcecnbilaaFull
import Derived.Test.YtpflnmcecnbilaaBits
namespace Go.Proofs.Ytpflnmcecnbilaa
open Go.RowKit

def multN (m : List Nat) (A : Nat) : Nat → Nat | 0 => 1 | k + 1 => sumN m (multN m A k) A
theorem multN_lt {m : List Nat} (hm : Ok m) (A k : Nat) : multN m A k < 2 ^ prodN m := by
  cases k with
  | zero => exact Nat.one_lt_two_pow (by have := hm.pos; omega)
  | succ k => exact hm.sum_lt _ _
theorem multN_bd {m : List Nat} (hm : Ok m) (A k : Nat) : multN m A k < 16777216 := Nat.lt_of_lt_of_le (multN_lt hm A k) hm.pow_le
def multOk (l : List Int) (a n : Int) : Bool := isSetB l a && inB n 0 30
theorem multOk_iff {l : List Int} {a n : Int} : multOk l a n = true ↔ ∃ m A N, Ok m ∧ l = cst m ∧ a = ((A : Nat) : Int) ∧ n = ((N : Nat) : Int) ∧ A < 2 ^ prodN m ∧ N ≤ 30 := by
  simp only [multOk, Bool.and_eq_true, inB_iff]
  constructor
  · rintro ⟨h1, h3⟩
    obtain ⟨m, A, hm, rfl, rfl, hA⟩ := isSetB_iff.1 h1
    exact ⟨m, A, n.toNat, hm, rfl, rfl, by omega, hA, by omega⟩
  · rintro ⟨m, A, N, hm, rfl, rfl, rfl, hA, hN⟩
    exact ⟨isSetB_nat hm hA, by omega, by omega⟩
theorem multOk_no {l : List Int} {a n : Int} (h : multOk l a n = false) : isSetB l a = false ∨ (isSetB l a = true ∧ inB n 0 30 = false) := by
  simp only [multOk] at h
  cases h1 : isSetB l a <;> simp_all
theorem multOk_yes {l : List Int} {a n : Int} (h : multOk l a n = true) : isSetB l a = true ∧ inB n 0 30 = true := by simpa [multOk] using h
def multF (l : List Int) (a n : Int) : Int := if multOk l a n = true then (multN (toN l) a.toNat n.toNat : Nat) else -1
theorem multF_yes {m : List Nat} {A N : Nat} (h : multOk (cst m) A N = true) : multF (cst m) A N = (multN m A N : Nat) := by
  unfold multF; rw [if_pos h, toN_cst, Int.toNat_natCast, Int.toNat_natCast]
theorem multF_no {l : List Int} {a n : Int} (h : multOk l a n = false) : multF l a n = -1 := by unfold multF; rw [if_neg (by simp [h])]
set_option maxHeartbeats 400000 in
theorem multipleSum_any (b off cap : Nat) (l : List Int) (a n : Int) (w : World) (hl : l.length ≤ 1099511627776) (hg : GrpAt w b off l) :
    Calls Try.prog 101 #[.agg #[.slice (some ⟨b, off, none⟩) l.length cap], .int .i64 a, .int .i64 n] w fun e w' => e = .returned (.int .i64 (multF l a n)) ∧ Below w.heap.size w w' := by
  have hst := St.init cap 26 hg
  by_cases h : multOk l a n = true
  · obtain ⟨y1, y2⟩ := multOk_yes h
    have h3 := multOk_iff.1 h
    obtain ⟨m, A, N, hm, rfl, rfl, rfl, hA, hN⟩ := h3
    have hr := hid (multF_yes h)
    have hA' := Nat.lt_of_lt_of_le hA hm.pow_le
    clear hA h
    go_enter Try.func101, Try.ntmps101
    go_wp2_with (first | (go_at_call 132; refine (isSet_any _ _ _ _ _ _ hl (St.grp (by assumption))).mono ?_; rintro e wN ⟨rfl, hbN⟩; have hstN := St.step (by assumption) hbN; have hboxN := hstN.box; clear hbN) | (go_at_call 121; refine (within_any _ _ _ _).mono ?_; rintro e wN ⟨rfl, rfl⟩))
    have hst2 : St w b off cap (cst m) wN := by assumption
    clear hst hboxN
    go_loopw [7, 18] (fun o i wr => ∃ k O : Nat, i = .int .i64 k ∧ k ≤ N ∧ o = .int .i64 O ∧ O < 16777216 ∧ Hid (O = multN m A k) ∧ St w b off cap (cst m) wr) (fun _ i _ => N - (intOf i).toNat)
    case atStart => exact ⟨0, 1, rfl, by omega, rfl, by omega, rfl, hst2⟩
    case round =>
      rename_i wr
      obtain ⟨k, O, rfl, hk, rfl, hO, hOe, hstr⟩ := hrel
      have hboxr := hstr.box
      clear hst2
      by_cases hlt : k < N
      · have hO' : Hid (sumN m O A = multN m A (k + 1)) := by unfold Hid; rw [hOe.out]; rfl
        have hlt2 := sumN_lt hm O A
        go_wp2_with (first | (go_at_call 115; refine (sum_any _ _ _ _ _ _ _ hm (by omega) (by omega) (St.grp (by assumption))).mono ?_; rintro e wN ⟨rfl, hbN⟩; have hstN := St.step (by assumption) hbN; have hboxN := hstN.box; clear hbN))
        go_roundw
        case rel => exact ⟨k + 1, sumN m O A, by go_num, by omega, rfl, hlt2, hO', by assumption⟩
        case measure => simp [intOf]; omega
      · have he : Hid (O = multN m A N) := by unfold Hid; rw [hOe.out, show k = N from by omega]
        go_wp2
        go_ret
        exact ⟨ret_i (by rw [hr.out, he.out]), hstr.below⟩
  · have hn : multOk l a n = false := by simpa using h
    have hr := hid (multF_no hn)
    clear h
    rcases multOk_no hn with h1 | ⟨h1, h2⟩
    all_goals
      go_enter Try.func101, Try.ntmps101
      go_wp2_with (first | (go_at_call 132; refine (isSet_any _ _ _ _ _ _ hl (St.grp (by assumption))).mono ?_; rintro e wN ⟨rfl, hbN⟩; have hstN := St.step (by assumption) hbN; have hboxN := hstN.box; clear hbN) | (go_at_call 121; refine (within_any _ _ _ _).mono ?_; rintro e wN ⟨rfl, rfl⟩))
      go_ret
      exact ⟨ret_i (by rw [hr.out]), St.below (by assumption)⟩
theorem multipleSum_yes (b off cap : Nat) (m : List Nat) (A N : Nat) (w : World) (hm : Ok m) (hA : A < 2 ^ prodN m) (hN : N ≤ 30) (hg : GrpAt w b off (cst m)) :
    Calls Try.prog 101 #[.agg #[.slice (some ⟨b, off, none⟩) (cst m).length cap], .int .i64 A, .int .i64 N] w fun e w' => e = .returned (.int .i64 (multN m A N : Nat)) ∧ Below w.heap.size w w' := by
  have h := multipleSum_any b off cap (cst m) A N w (by rw [cst_length]; have := hm.len; omega) hg
  rw [multF_yes (multOk_iff.2 ⟨m, A, N, hm, rfl, rfl, rfl, hA, hN⟩)] at h; exact h
set_option maxHeartbeats 400000 in
theorem sMultipleSum_any (b off cap : Nat) (l : List Int) (a n : Int) (w : World) (hl : l.length ≤ 1099511627776) (hg : GrpAt w b off l) :
    Calls Try.prog 171 #[.agg #[.slice (some ⟨b, off, none⟩) l.length cap], .int .i64 a, .int .i64 n] w fun e w' => e = .returned (.int .i64 (multF l a n)) ∧ Below w.heap.size w w' := by
  have hst := St.init cap 26 hg
  by_cases h : multOk l a n = true
  · obtain ⟨y1, y2⟩ := multOk_yes h
    have h3 := multOk_iff.1 h
    obtain ⟨m, A, N, hm, rfl, rfl, rfl, hA, hN⟩ := h3
    have hr := hid (multF_yes h)
    have hA' := Nat.lt_of_lt_of_le hA hm.pow_le
    clear hA h
    go_enter Try.func171, Try.ntmps171
    go_wp2_with (first | (go_at_call 64; refine (sIsSet_any _ _ _ _ _ _ hl (St.grp (by assumption))).mono ?_; rintro e wN ⟨rfl, hbN⟩; have hstN := St.step (by assumption) hbN; have hboxN := hstN.box; clear hbN) | (go_at_call 128; refine (l1In_any _ _ _ _).mono ?_; rintro e wN ⟨rfl, rfl⟩))
    have hst2 : St w b off cap (cst m) wN := by assumption
    clear hst hboxN
    go_loopw [7, 8] (fun o i wr => ∃ k O : Nat, i = .int .i64 k ∧ k ≤ N ∧ o = .int .i64 O ∧ O < 16777216 ∧ Hid (O = multN m A k) ∧ St w b off cap (cst m) wr) (fun _ i _ => N - (intOf i).toNat)
    case atStart => exact ⟨0, 1, rfl, by omega, rfl, by omega, rfl, hst2⟩
    case round =>
      rename_i wr
      obtain ⟨k, O, rfl, hk, rfl, hO, hOe, hstr⟩ := hrel
      have hboxr := hstr.box
      clear hst2
      by_cases hlt : k < N
      · have hO' : Hid (sumN m O A = multN m A (k + 1)) := by unfold Hid; rw [hOe.out]; rfl
        have hlt2 := sumN_lt hm O A
        go_wp2_with (first | (go_at_call 117; refine (l4Sum_any _ _ _ _ _ _ _ hm (by omega) (by omega) (St.grp (by assumption))).mono ?_; rintro e wN ⟨rfl, hbN⟩; have hstN := St.step (by assumption) hbN; have hboxN := hstN.box; clear hbN))
        go_roundw
        case rel => exact ⟨k + 1, sumN m O A, by go_num, by omega, rfl, hlt2, hO', by assumption⟩
        case measure => simp [intOf]; omega
      · have he : Hid (O = multN m A N) := by unfold Hid; rw [hOe.out, show k = N from by omega]
        go_wp2
        go_ret
        exact ⟨ret_i (by rw [hr.out, he.out]), hstr.below⟩
  · have hn : multOk l a n = false := by simpa using h
    have hr := hid (multF_no hn)
    clear h
    rcases multOk_no hn with h1 | ⟨h1, h2⟩
    all_goals
      go_enter Try.func171, Try.ntmps171
      go_wp2_with (first | (go_at_call 64; refine (sIsSet_any _ _ _ _ _ _ hl (St.grp (by assumption))).mono ?_; rintro e wN ⟨rfl, hbN⟩; have hstN := St.step (by assumption) hbN; have hboxN := hstN.box; clear hbN) | (go_at_call 128; refine (l1In_any _ _ _ _).mono ?_; rintro e wN ⟨rfl, rfl⟩))
      go_ret
      exact ⟨ret_i (by rw [hr.out]), St.below (by assumption)⟩
theorem sMultipleSum_yes (b off cap : Nat) (m : List Nat) (A N : Nat) (w : World) (hm : Ok m) (hA : A < 2 ^ prodN m) (hN : N ≤ 30) (hg : GrpAt w b off (cst m)) :
    Calls Try.prog 171 #[.agg #[.slice (some ⟨b, off, none⟩) (cst m).length cap], .int .i64 A, .int .i64 N] w fun e w' => e = .returned (.int .i64 (multN m A N : Nat)) ∧ Below w.heap.size w w' := by
  have h := sMultipleSum_any b off cap (cst m) A N w (by rw [cst_length]; have := hm.len; omega) hg
  rw [multF_yes (multOk_iff.2 ⟨m, A, N, hm, rfl, rfl, rfl, hA, hN⟩)] at h; exact h
set_option maxHeartbeats 400000 in
theorem fullSet_yes (b off cap : Nat) (m : List Nat) (w : World) (hm : Ok m) (hg : GrpAt w b off (cst m)) :
    Calls Try.prog 131 #[.agg #[.slice (some ⟨b, off, none⟩) (cst m).length cap]] w fun e w' => e = .returned (.int .i64 (pw (prodN m) - 1 : Nat)) ∧ Below w.heap.size w w' := by
  have hst := St.init cap 26 hg
  have hl : (cst m).length ≤ 1099511627776 := by rw [cst_length]; have := hm.len; omega
  have hok := ok_grp hm
  have hord := hm.ord
  have hsh := shl1 (x := prodN m) (by omega)
  have hpl := pw_le hord
  go_enter Try.func131, Try.ntmps131
  go_wp2_with (first | (go_at_call 170; refine (isGroup_any _ _ _ _ _ hl (St.grp (by assumption))).mono ?_; rintro e wN ⟨rfl, hbN⟩; have hstN := St.step (by assumption) hbN; have hboxN := hstN.box; clear hbN) | (go_at_call 130; refine (orderOf_yes _ _ _ _ _ hm (St.grp (by assumption))).mono ?_; rintro e wN ⟨rfl, hbN⟩; have hstN := St.step (by assumption) hbN; have hboxN := hstN.box; clear hbN))
  go_ret
  exact ⟨ret_i (by omega), St.below (by assumption)⟩
theorem fullSet_no (b off cap : Nat) (l : List Int) (w : World) (hl : l.length ≤ 1099511627776) (hn : grp l = false) (hg : GrpAt w b off l) :
    Calls Try.prog 131 #[.agg #[.slice (some ⟨b, off, none⟩) l.length cap]] w fun e w' => e = .returned (.int .i64 0) ∧ Below w.heap.size w w' := by
  have hst := St.init cap 26 hg
  go_enter Try.func131, Try.ntmps131
  go_wp2_with (first | (go_at_call 170; refine (isGroup_any _ _ _ _ _ hl (St.grp (by assumption))).mono ?_; rintro e wN ⟨rfl, hbN⟩; have hstN := St.step (by assumption) hbN; have hboxN := hstN.box; clear hbN))
  go_ret
  exact ⟨rfl, St.below (by assumption)⟩

/-! ### bases -/
def isFullN (m : List Nat) (A k : Nat) : Bool := decide (multN m A k = pw (prodN m) - 1)
def basisN (m : List Nat) (A : Nat) : Int := match (List.range 31).find? (isFullN m A) with | some k => (k : Int) | none => -1
theorem basisN_some {m : List Nat} {A k : Nat} (hk : k ≤ 30) (h : isFullN m A k = true) (hb : ∀ j, j < k → isFullN m A j = false) : basisN m A = k := by
  have : (List.range 31).find? (isFullN m A) = some k := by
    rw [List.find?_eq_some_iff_append]
    refine ⟨h, List.range k, (List.range (31 - (k + 1))).map (fun x => k + 1 + x), ?_, ?_⟩
    · rw [show (31 : Nat) = k + 1 + (31 - (k + 1)) from by omega, List.range_add, List.range_succ]; simp
    · intro j hj; rw [List.mem_range] at hj; simp [hb j hj]
  unfold basisN; rw [this]
theorem basisN_none {m : List Nat} {A : Nat} (hb : ∀ j, j < 31 → isFullN m A j = false) : basisN m A = -1 := by
  have : (List.range 31).find? (isFullN m A) = none := by
    rw [List.find?_eq_none]; intro j hj; rw [List.mem_range] at hj; simp [hb j hj]
  unfold basisN; rw [this]
def basisF (l : List Int) (a : Int) : Int := if isSetB l a = true then basisN (toN l) a.toNat else -1
theorem basisF_yes {m : List Nat} {A : Nat} (hm : Ok m) (hA : A < 2 ^ prodN m) : basisF (cst m) A = basisN m A := by
  unfold basisF; rw [if_pos (isSetB_nat hm hA), toN_cst, Int.toNat_natCast]
theorem basisF_no {l : List Int} {a : Int} (h : isSetB l a = false) : basisF l a = -1 := by unfold basisF; rw [if_neg (by simp [h])]
set_option maxHeartbeats 400000 in
theorem orderOfBasis_any (b off cap : Nat) (l : List Int) (a : Int) (w : World) (hl : l.length ≤ 1099511627776) (hg : GrpAt w b off l) :
    Calls Try.prog 98 #[.agg #[.slice (some ⟨b, off, none⟩) l.length cap], .int .i64 a] w fun e w' => e = .returned (.int .i64 (basisF l a)) ∧ Below w.heap.size w w' := by
  have hst := St.init cap 26 hg
  by_cases h : isSetB l a = true
  · have h3 := isSetB_iff.1 h
    obtain ⟨m, A, hm, rfl, rfl, hA⟩ := h3
    have hr := hid (basisF_yes hm hA)
    go_enter Try.func98, Try.ntmps98
    go_wp2
    go_loopw [5] (fun i wr => ∃ k : Nat, i = .int .i64 k ∧ k ≤ 31 ∧ Hid (∀ j, j < k → isFullN m A j = false) ∧ St w b off cap (cst m) wr) (fun i _ => 31 - (intOf i).toNat)
    case atStart => exact ⟨0, rfl, by omega, fun j hj => by omega, hst⟩
    case round =>
      rename_i wr
      obtain ⟨k, rfl, hk, hall, hstr⟩ := hrel
      have hboxr := hstr.box
      clear hst
      by_cases hlt : k ≤ 30
      · go_wp2_with (first | (go_at_call 132; refine (isSet_any _ _ _ _ _ _ hl (St.grp (by assumption))).mono ?_; rintro e wN ⟨rfl, hbN⟩; have hstN := St.step (by assumption) hbN; have hboxN := hstN.box; clear hbN))
        have hst0 : St w b off cap (cst m) wN := by assumption
        have hst1 := hst0.drew
        clear hstr hst0 hboxN
        by_cases hf : isFullN m A k = true
        · have hres := hid (basisN_some hlt hf hall.out)
          have hq : multN m A k = pw (prodN m) - 1 := of_decide_eq_true hf
          have hqb : (((multN m A k : Nat) : Int) == ((pw (prodN m) - 1 : Nat) : Int)) = true := by rw [hq]; simp
          clear hf hq
          go_region_held3 (fun w' => w'.cell? ⟨w.heap.size, 0, none⟩ = some (.slice (some ⟨b, off, none⟩) (cst m).length cap) ∧ St w b off cap (cst m) w') (first | exact ⟨hst1.box, hst1⟩ | exact St.keep (by assumption) hb1)
            (first | (go_at_call 101; refine (multipleSum_yes _ _ _ _ _ _ _ hm hA hlt (St.grpOf (by assumption))).mono ?_; rintro e w1 ⟨rfl, hb1⟩) | (go_at_call 131; refine (fullSet_yes _ _ _ _ _ hm (St.grpOf (by assumption))).mono ?_; rintro e w1 ⟨rfl, hb1⟩))
          have hst2 : St w b off cap (cst m) w1 := And.right (by assumption)
          go_wp2
          go_ret
          exact ⟨ret_i (by rw [hr.out, hres.out]), hst2.below⟩
        · have hf' : isFullN m A k = false := by simpa using hf
          have hq : multN m A k ≠ pw (prodN m) - 1 := of_decide_eq_false hf'
          have hqb : (((multN m A k : Nat) : Int) == ((pw (prodN m) - 1 : Nat) : Int)) = false := by rw [beq_eq_false_iff_ne]; omega
          have hall' : Hid (∀ j, j < k + 1 → isFullN m A j = false) := fun j hj => by
            by_cases e : j = k
            · rw [e]; exact hf'
            · exact hall.out j (by omega)
          clear hf hf' hq
          go_region_held3 (fun w' => w'.cell? ⟨w.heap.size, 0, none⟩ = some (.slice (some ⟨b, off, none⟩) (cst m).length cap) ∧ St w b off cap (cst m) w') (first | exact ⟨hst1.box, hst1⟩ | exact St.keep (by assumption) hb1)
            (first | (go_at_call 101; refine (multipleSum_yes _ _ _ _ _ _ _ hm hA hlt (St.grpOf (by assumption))).mono ?_; rintro e w1 ⟨rfl, hb1⟩) | (go_at_call 131; refine (fullSet_yes _ _ _ _ _ hm (St.grpOf (by assumption))).mono ?_; rintro e w1 ⟨rfl, hb1⟩))
          have hst2 : St w b off cap (cst m) w1 := And.right (by assumption)
          go_wp2
          go_roundw
          case rel => exact ⟨k + 1, by go_num, by omega, hall', hst2⟩
          case measure => simp [intOf]; omega
      · have hres := hid (basisN_none (fun j hj => hall.out j (by omega)))
        go_wp2
        go_ret
        exact ⟨ret_i (by rw [hr.out, hres.out]), hstr.below⟩
  · have hn : isSetB l a = false := by simpa using h
    have hr := hid (basisF_no hn)
    clear h
    go_enter Try.func98, Try.ntmps98
    go_wp2
    refine wp_loop_rounds 1 ?_
    rw [rounds_succ]
    go_wp2_with (first | (go_at_call 132; refine (isSet_any _ _ _ _ _ _ hl (St.grp (by assumption))).mono ?_; rintro e wN ⟨rfl, hbN⟩; have hstN := St.step (by assumption) hbN; have hboxN := hstN.box; clear hbN))
    go_ret
    exact ⟨ret_i (by rw [hr.out]), St.below (by assumption)⟩
set_option maxHeartbeats 400000 in
theorem sOrderOfBasis_any (b off cap : Nat) (l : List Int) (a : Int) (w : World) (hl : l.length ≤ 1099511627776) (hg : GrpAt w b off l) :
    Calls Try.prog 99 #[.agg #[.slice (some ⟨b, off, none⟩) l.length cap], .int .i64 a] w fun e w' => e = .returned (.int .i64 (basisF l a)) ∧ Below w.heap.size w w' := by
  have hst := St.init cap 26 hg
  by_cases h : isSetB l a = true
  · have h3 := isSetB_iff.1 h
    obtain ⟨m, A, hm, rfl, rfl, hA⟩ := h3
    have hr := hid (basisF_yes hm hA)
    have hA' := Nat.lt_of_lt_of_le hA hm.pow_le
    have hord := hm.ord
    have hsh := shl1 (x := prodN m) (by omega)
    have hpl := pw_le hord
    go_enter Try.func99, Try.ntmps99
    go_wp2_with (first | (go_at_call 64; refine (sIsSet_any _ _ _ _ _ _ hl (St.grp (by assumption))).mono ?_; rintro e wN ⟨rfl, hbN⟩; have hstN := St.step (by assumption) hbN; have hboxN := hstN.box; clear hbN))
    have hst0 : St w b off cap (cst m) wN := by assumption
    clear hst hboxN
    go_loopw [5, 6] (fun o i wr => ∃ k O : Nat, i = .int .i64 k ∧ k ≤ 31 ∧ o = .int .i64 O ∧ O < 16777216 ∧ Hid (O = multN m A k) ∧ Hid (∀ j, j < k → isFullN m A j = false) ∧ St w b off cap (cst m) wr) (fun _ i _ => 31 - (intOf i).toNat)
    case atStart => exact ⟨0, 1, rfl, by omega, rfl, by omega, rfl, fun j hj => by omega, hst0⟩
    case round =>
      rename_i wr
      obtain ⟨k, O, rfl, hk, rfl, hO, hOe, hall, hstr⟩ := hrel
      have hboxr := hstr.box
      clear hst0
      by_cases hlt : k ≤ 30
      · by_cases hf : isFullN m A k = true
        · have hres := hid (basisN_some hlt hf hall.out)
          have hq : O = pw (prodN m) - 1 := by rw [hOe.out]; exact of_decide_eq_true hf
          have hqb : ((O : Int) == ((pw (prodN m) : Nat) : Int) - 1) = true := by rw [beq_iff_eq]; omega
          clear hf hq
          go_wp2_with (first | (go_at_call 120; refine (l2Order_any _ _ _ _ _ hm (St.grp (by assumption))).mono ?_; rintro e wN ⟨rfl, hbN⟩; have hstN := St.step (by assumption) hbN; have hboxN := hstN.box; clear hbN))
          go_ret
          exact ⟨ret_i (by rw [hr.out, hres.out]), St.below (by assumption)⟩
        · have hf' : isFullN m A k = false := by simpa using hf
          have hq : O ≠ pw (prodN m) - 1 := by rw [hOe.out]; exact of_decide_eq_false hf'
          have hqb : ((O : Int) == ((pw (prodN m) : Nat) : Int) - 1) = false := by rw [beq_eq_false_iff_ne]; omega
          have hall' : Hid (∀ j, j < k + 1 → isFullN m A j = false) := fun j hj => by
            by_cases e : j = k
            · rw [e]; exact hf'
            · exact hall.out j (by omega)
          have hO' : Hid (sumN m O A = multN m A (k + 1)) := by unfold Hid; rw [hOe.out]; rfl
          have hlt2 := sumN_lt hm O A
          clear hf hf' hq
          go_wp2_with (first | (go_at_call 120; refine (l2Order_any _ _ _ _ _ hm (St.grp (by assumption))).mono ?_; rintro e wN ⟨rfl, hbN⟩; have hstN := St.step (by assumption) hbN; have hboxN := hstN.box; clear hbN) | (go_at_call 117; refine (l4Sum_any _ _ _ _ _ _ _ hm (by omega) (by omega) (St.grp (by assumption))).mono ?_; rintro e wN ⟨rfl, hbN⟩; have hstN := St.step (by assumption) hbN; have hboxN := hstN.box; clear hbN))
          go_roundw
          case rel => exact ⟨k + 1, sumN m O A, by go_num, by omega, rfl, hlt2, hO', hall', by assumption⟩
          case measure => simp [intOf]; omega
      · have hres := hid (basisN_none (fun j hj => hall.out j (by omega)))
        go_wp2
        go_ret
        exact ⟨ret_i (by rw [hr.out, hres.out]), hstr.below⟩
  · have hn : isSetB l a = false := by simpa using h
    have hr := hid (basisF_no hn)
    clear h
    go_enter Try.func99, Try.ntmps99
    go_wp2_with (first | (go_at_call 64; refine (sIsSet_any _ _ _ _ _ _ hl (St.grp (by assumption))).mono ?_; rintro e wN ⟨rfl, hbN⟩; have hstN := St.step (by assumption) hbN; have hboxN := hstN.box; clear hbN))
    go_ret
    exact ⟨ret_i (by rw [hr.out]), St.below (by assumption)⟩
theorem basisN_ge (m : List Nat) (A : Nat) : -1 ≤ basisN m A := by
  unfold basisN; split <;> omega
theorem basisF_ge (l : List Int) (a : Int) : -1 ≤ basisF l a := by
  unfold basisF; split
  · exact basisN_ge _ _
  · omega
def isBasisF (l : List Int) (a : Int) : Bool := decide (0 ≤ basisF l a)
theorem isBasis_any (b off cap : Nat) (l : List Int) (a : Int) (w : World) (hl : l.length ≤ 1099511627776) (hg : GrpAt w b off l) :
    Calls Try.prog 100 #[.agg #[.slice (some ⟨b, off, none⟩) l.length cap], .int .i64 a] w fun e w' => e = .returned (.bool (isBasisF l a)) ∧ Below w.heap.size w w' := by
  have hst := St.init cap 26 hg
  have hge := basisF_ge l a
  go_enter Try.func100, Try.ntmps100
  go_wp2_with fail
  refine (orderOfBasis_any _ _ _ _ _ _ hl hst.grp).mono ?_; rintro e w1 ⟨rfl, hb1⟩; have hst1 := hst.step hb1
  go_wp2
  go_ret
  exact ⟨ret_b (by unfold isBasisF; rw [Bool.eq_iff_iff]; simp; omega), hst1.below⟩
end Go.Proofs.Ytpflnmcecnbilaa
