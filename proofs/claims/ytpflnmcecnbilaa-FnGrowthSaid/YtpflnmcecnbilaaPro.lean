/-
  Contracts: sets in progression.
-/
import Derived.Test.YtpflnmcecnbilaaAdd
import Derived.Test.YtpflnmcecnbilaaBits
namespace Go.Proofs.Ytpflnmcecnbilaa
open Go.RowKit

/-- the element that stands at place k of a progression -/
def stepN (m : List Nat) (s d : Nat) : Nat → Nat | 0 => s | k + 1 => addN m (stepN m s d k) d
/-- the elements before place k -/
def progTo (m : List Nat) (s d k : Nat) : List Nat := (List.range k).map (stepN m s d)
theorem progTo_succ (m : List Nat) (s d k : Nat) : progTo m s d (k + 1) = progTo m s d k ++ [stepN m s d k] := by simp [progTo, List.range_succ]
theorem stepN_lt {m : List Nat} (hm : Ok m) {s d : Nat} (hs : s < prodN m) (k : Nat) : stepN m s d k < prodN m := by
  cases k with
  | zero => exact hs
  | succ k => exact hm.add_lt _ _
theorem progTo_24 {m : List Nat} (hm : Ok m) {s d : Nat} (hs : s < prodN m) (k : Nat) : ∀ i ∈ progTo m s d k, i < 24 := fun i hi => by
  simp only [progTo, List.mem_map] at hi; obtain ⟨j, _, rfl⟩ := hi
  exact Nat.lt_of_lt_of_le (stepN_lt hm hs j) hm.ord
theorem ofL_orP {L : List Nat} {x : Nat} (hL : ∀ i ∈ L, i < 24) (hx : x < 24) : bits BinOp.or IntKind.i64 ((ofL L : Nat) : Int) ((pw x : Nat) : Int) = ((ofL (L ++ [x]) : Nat) : Int) := by
  rw [ofL_snoc]
  exact bits_or_nat _ _ (by have := ofL_bound hL; omega) (by have := (pw_le (x := x) (by omega)).2; omega)
set_option maxHeartbeats 400000 in
theorem progression_any (b off cap : Nat) (m : List Nat) (s d n : Nat) (w : World) (hm : Ok m) (hs : s < prodN m) (hd : d < prodN m) (hn : n ≤ 24) (hg : GrpAt w b off (cst m)) :
    Calls Try.prog 134 #[.agg #[.slice (some ⟨b, off, none⟩) (cst m).length cap], .int .i64 s, .int .i64 d, .int .i64 n] w fun e w' => e = .returned (.int .i64 (ofL (progTo m s d n) : Nat)) ∧ Below w.heap.size w w' := by
  have hst := St.init cap 26 hg
  have hord := hm.ord
  go_enter Try.func134, Try.ntmps134
  go_wp2
  go_loopw [1, 9, 11] (fun x o i wr => ∃ k X : Nat, x = .int .i64 X ∧ i = .int .i64 k ∧ k ≤ n ∧ X < prodN m ∧ Hid (X = stepN m s d k) ∧ o = .int .i64 (ofL (progTo m s d k) : Nat) ∧ St w b off cap (cst m) wr) (fun _ _ i _ => n - (intOf i).toNat)
  case atStart => exact ⟨0, s, rfl, rfl, by omega, hs, rfl, rfl, hst⟩
  case round =>
    rename_i wr
    obtain ⟨k, X, rfl, rfl, hk, hX, hXe, rfl, hstr⟩ := hrel
    have hbox := hstr.box
    clear hst
    by_cases hlt : k < n
    · have hor := hid (ofL_orP (progTo_24 (d := d) hm hs k) (show X < 24 by omega))
      have hyes : Hid (progTo m s d (k + 1) = progTo m s d k ++ [X]) := by unfold Hid; rw [progTo_succ, hXe.out]
      have hsh := shl1 (x := X) (by omega)
      have hpl := pw_le (x := X) (by omega)
      have hnx : Hid (addN m X d = stepN m s d (k + 1)) := by unfold Hid; rw [hXe.out]; rfl
      have hnl := hm.add_lt X d
      go_wp2_with (first | (go_at_call 137; refine (add_any _ _ _ _ _ _ _ hm (by omega) (by omega) (St.grp (by assumption))).mono ?_; rintro e wN ⟨rfl, hbN⟩; have hstN := St.step (by assumption) hbN; have hboxN := hstN.box; clear hbN))
      go_roundw
      case rel => exact ⟨k + 1, addN m X d, rfl, by go_num, by omega, hnl, hnx, by rw [hyes.out, ← hor.out], by assumption⟩
      case measure => simp [intOf]; omega
    · have hkn : Hid (k = n) := by unfold Hid; omega
      go_wp2
      go_ret
      exact ⟨ret_i (by rw [hkn.out]), hstr.below⟩
set_option maxHeartbeats 400000 in
theorem l10Progression_any (b off cap : Nat) (m : List Nat) (s d n : Nat) (w : World) (hm : Ok m) (hs : s < prodN m) (hd : d < prodN m) (hn : n ≤ 24) (hg : GrpAt w b off (cst m)) :
    Calls Try.prog 136 #[.agg #[.slice (some ⟨b, off, none⟩) (cst m).length cap], .int .i64 s, .int .i64 d, .int .i64 n] w fun e w' => e = .returned (.int .i64 (ofL (progTo m s d n) : Nat)) ∧ Below w.heap.size w w' := by
  have hst := St.init cap 26 hg
  have hord := hm.ord
  go_enter Try.func136, Try.ntmps136
  go_wp2
  go_loopw [9, 10, 11] (fun o x i wr => ∃ k X : Nat, x = .int .i64 X ∧ i = .int .i64 k ∧ k ≤ n ∧ X < prodN m ∧ Hid (X = stepN m s d k) ∧ o = .int .i64 (ofL (progTo m s d k) : Nat) ∧ St w b off cap (cst m) wr) (fun _ _ i _ => n - (intOf i).toNat)
  case atStart => exact ⟨0, s, rfl, rfl, by omega, hs, rfl, rfl, hst⟩
  case round =>
    rename_i wr
    obtain ⟨k, X, rfl, rfl, hk, hX, hXe, rfl, hstr⟩ := hrel
    have hbox := hstr.box
    clear hst
    by_cases hlt : k < n
    · have hor := hid (ofL_orP (progTo_24 (d := d) hm hs k) (show X < 24 by omega))
      have hyes : Hid (progTo m s d (k + 1) = progTo m s d k ++ [X]) := by unfold Hid; rw [progTo_succ, hXe.out]
      have hsh := shl1 (x := X) (by omega)
      have hpl := pw_le (x := X) (by omega)
      have hnx : Hid (addN m X d = stepN m s d (k + 1)) := by unfold Hid; rw [hXe.out]; rfl
      have hnl := hm.add_lt X d
      go_wp2_with (first | (go_at_call 146; refine (l2Add_any _ _ _ _ _ _ _ hm (by omega) (by omega) (St.grp (by assumption))).mono ?_; rintro e wN ⟨rfl, hbN⟩; have hstN := St.step (by assumption) hbN; have hboxN := hstN.box; clear hbN))
      go_roundw
      case rel => exact ⟨k + 1, addN m X d, rfl, by go_num, by omega, hnl, hnx, by rw [hyes.out, ← hor.out], by assumption⟩
      case measure => simp [intOf]; omega
    · have hkn : Hid (k = n) := by unfold Hid; omega
      go_wp2
      go_ret
      exact ⟨ret_i (by rw [hkn.out]), hstr.below⟩
def progOk (l : List Int) (s d n : Int) : Bool := isEl l s && isEl l d && inB n 0 24
def progF (l : List Int) (s d n : Int) : Int := if progOk l s d n = true then (ofL (progTo (toN l) s.toNat d.toNat n.toNat) : Nat) else -1
theorem progOk_iff {l : List Int} {s d n : Int} : progOk l s d n = true ↔ ∃ m S D N, Ok m ∧ l = cst m ∧ s = ((S : Nat) : Int) ∧ d = ((D : Nat) : Int) ∧ n = ((N : Nat) : Int) ∧ S < prodN m ∧ D < prodN m ∧ N ≤ 24 := by
  simp only [progOk, Bool.and_eq_true, inB_iff]
  constructor
  · rintro ⟨⟨h1, h2⟩, h3⟩
    obtain ⟨m, S, hm, rfl, rfl, hS⟩ := isEl_iff.1 h1
    rw [isEl_yes hm] at h2
    simp only [Bool.and_eq_true, decide_eq_true_eq] at h2
    exact ⟨m, S, d.toNat, n.toNat, hm, rfl, rfl, by omega, by omega, hS, by omega, by omega⟩
  · rintro ⟨m, S, D, N, hm, rfl, rfl, rfl, rfl, hS, hD, hN⟩
    rw [isEl_yes hm, isEl_yes hm]; simp; omega
theorem progOk_no {l : List Int} {s d n : Int} (h : progOk l s d n = false) : isEl l s = false ∨ (isEl l s = true ∧ isEl l d = false) ∨ (isEl l s = true ∧ isEl l d = true ∧ inB n 0 24 = false) := by
  simp only [progOk] at h
  cases h1 : isEl l s <;> cases h2 : isEl l d <;> cases h3 : inB n 0 24 <;> simp_all
theorem progOk_yes {l : List Int} {s d n : Int} (h : progOk l s d n = true) : isEl l s = true ∧ isEl l d = true ∧ inB n 0 24 = true := by
  simp only [progOk, Bool.and_eq_true] at h; exact ⟨h.1.1, h.1.2, h.2⟩
set_option maxHeartbeats 400000 in
theorem progressionSet_any (b off cap : Nat) (l : List Int) (s d n : Int) (w : World) (hl : l.length ≤ 1099511627776) (hg : GrpAt w b off l) :
    Calls Try.prog 48 #[.agg #[.slice (some ⟨b, off, none⟩) l.length cap], .int .i64 s, .int .i64 d, .int .i64 n] w fun e w' => e = .returned (.int .i64 (progF l s d n)) ∧ Below w.heap.size w w' := by
  have hst := St.init cap 26 hg
  by_cases hf : progOk l s d n = true
  · have hr : Hid (progF l s d n = (ofL (progTo (toN l) s.toNat d.toNat n.toNat) : Nat)) := by unfold Hid progF; rw [if_pos hf]
    obtain ⟨y1, y2, y3⟩ := progOk_yes hf
    have hf0 := progOk_iff.1 hf
    obtain ⟨m, S, D, N, hm, rfl, rfl, rfl, rfl, hS, hD, hN⟩ := hf0
    rw [Int.toNat_natCast, Int.toNat_natCast, Int.toNat_natCast, toN_cst] at hr
    go_enter Try.func48, Try.ntmps48
    go_wp2_with (first | (go_at_call 145; refine (has_any _ _ _ _ _ _ hl (St.grp (by assumption))).mono ?_; rintro e wN ⟨rfl, hbN⟩; have hstN := St.step (by assumption) hbN; have hboxN := hstN.box; clear hbN) | (go_at_call 121; refine (within_any _ _ _ _).mono ?_; rintro e wN ⟨rfl, rfl⟩))
    refine (progression_any _ _ _ _ _ _ _ _ hm hS hD hN (St.grp (by assumption))).mono ?_; rintro e w2 ⟨rfl, hb2⟩; have hst2 : St w b off cap (cst m) w2 := St.step (by assumption) hb2
    go_wp2
    go_ret
    exact ⟨ret_i (by rw [hr.out]), hst2.below⟩
  · have hf' : progOk l s d n = false := by simpa using hf
    have hr : Hid (progF l s d n = -1) := by unfold Hid progF; rw [if_neg hf]
    clear hf
    rcases progOk_no hf' with h1 | ⟨h1, h2⟩ | ⟨h1, h2, h3⟩
    all_goals
      go_enter Try.func48, Try.ntmps48
      go_wp2_with (first | (go_at_call 145; refine (has_any _ _ _ _ _ _ hl (St.grp (by assumption))).mono ?_; rintro e wN ⟨rfl, hbN⟩; have hstN := St.step (by assumption) hbN; have hboxN := hstN.box; clear hbN) | (go_at_call 121; refine (within_any _ _ _ _).mono ?_; rintro e wN ⟨rfl, rfl⟩))
      go_ret
      exact ⟨ret_i (by rw [hr.out]), St.below (by assumption)⟩
set_option maxHeartbeats 400000 in
theorem sProgressionSet_any (b off cap : Nat) (l : List Int) (s d n : Int) (w : World) (hl : l.length ≤ 1099511627776) (hg : GrpAt w b off l) :
    Calls Try.prog 49 #[.agg #[.slice (some ⟨b, off, none⟩) l.length cap], .int .i64 s, .int .i64 d, .int .i64 n] w fun e w' => e = .returned (.int .i64 (progF l s d n)) ∧ Below w.heap.size w w' := by
  have hst := St.init cap 26 hg
  by_cases hf : progOk l s d n = true
  · have hr : Hid (progF l s d n = (ofL (progTo (toN l) s.toNat d.toNat n.toNat) : Nat)) := by unfold Hid progF; rw [if_pos hf]
    obtain ⟨y1, y2, y3⟩ := progOk_yes hf
    have hf0 := progOk_iff.1 hf
    obtain ⟨m, S, D, N, hm, rfl, rfl, rfl, rfl, hS, hD, hN⟩ := hf0
    rw [Int.toNat_natCast, Int.toNat_natCast, Int.toNat_natCast, toN_cst] at hr
    go_enter Try.func49, Try.ntmps49
    go_wp2_with (first | (go_at_call 139; refine (l2Is_any _ _ _ _ _ _ hl (St.grp (by assumption))).mono ?_; rintro e wN ⟨rfl, hbN⟩; have hstN := St.step (by assumption) hbN; have hboxN := hstN.box; clear hbN) | (go_at_call 128; refine (l1In_any _ _ _ _).mono ?_; rintro e wN ⟨rfl, rfl⟩))
    refine (l10Progression_any _ _ _ _ _ _ _ _ hm hS hD hN (St.grp (by assumption))).mono ?_; rintro e w2 ⟨rfl, hb2⟩; have hst2 : St w b off cap (cst m) w2 := St.step (by assumption) hb2
    go_wp2
    go_ret
    exact ⟨ret_i (by rw [hr.out]), hst2.below⟩
  · have hf' : progOk l s d n = false := by simpa using hf
    have hr : Hid (progF l s d n = -1) := by unfold Hid progF; rw [if_neg hf]
    clear hf
    rcases progOk_no hf' with h1 | ⟨h1, h2⟩ | ⟨h1, h2, h3⟩
    all_goals
      go_enter Try.func49, Try.ntmps49
      go_wp2_with (first | (go_at_call 139; refine (l2Is_any _ _ _ _ _ _ hl (St.grp (by assumption))).mono ?_; rintro e wN ⟨rfl, hbN⟩; have hstN := St.step (by assumption) hbN; have hboxN := hstN.box; clear hbN) | (go_at_call 128; refine (l1In_any _ _ _ _).mono ?_; rintro e wN ⟨rfl, rfl⟩))
      go_ret
      exact ⟨ret_i (by rw [hr.out]), St.below (by assumption)⟩
end Go.Proofs.Ytpflnmcecnbilaa
