/-
  Contracts: characters' values of whatever numbers; kernels; annihilators.
-/
import Derived.Test.YtggjbicllnppkaaChar
namespace Go.Proofs.Ytggjbicllnppkaa
open Go.RowKit

def elTwo (l : List Int) (k x : Int) : Bool := isEl l k && isEl l x
theorem elTwo_yes {l : List Int} {k x : Int} (h : elTwo l k x = true) : isEl l k = true ∧ isEl l x = true := by simpa [elTwo] using h
theorem elTwo_no {l : List Int} {k x : Int} (h : elTwo l k x = false) : isEl l k = false ∨ (isEl l k = true ∧ isEl l x = false) := by
  cases h1 : isEl l k <;> cases h2 : isEl l x <;> simp_all [elTwo]
theorem elTwo_iff {l : List Int} {k x : Int} (h : elTwo l k x = true) : ∃ m K X, Ok m ∧ l = cst m ∧ k = ((K : Nat) : Int) ∧ x = ((X : Nat) : Int) ∧ K < prodN m ∧ X < prodN m := by
  obtain ⟨h1, h2⟩ := elTwo_yes h
  obtain ⟨m, K, hm, rfl, rfl, hK⟩ := isEl_iff.1 h1
  rw [isEl_yes hm] at h2
  simp only [Bool.and_eq_true, decide_eq_true_eq] at h2
  exact ⟨m, K, x.toNat, hm, rfl, rfl, by omega, hK, by omega⟩
def charF (l : List Int) (k x : Int) : Int := if elTwo l k x = true then (charN (toN l) k.toNat x.toNat : Nat) else -1
theorem charF_yes {m : List Nat} {K X : Nat} (h : elTwo (cst m) K X = true) : charF (cst m) K X = (charN m K X : Nat) := by
  unfold charF; rw [if_pos h, toN_cst, Int.toNat_natCast, Int.toNat_natCast]
theorem charF_no {l : List Int} {k x : Int} (h : elTwo l k x = false) : charF l k x = -1 := by unfold charF; rw [if_neg (by simp [h])]
set_option maxHeartbeats 400000 in
theorem characterValue_any (b off cap : Nat) (l : List Int) (k x : Int) (w : World) (hl : l.length ≤ 1099511627776) (hg : GrpAt w b off l) :
    Calls Try.prog 73 #[.agg #[.slice (some ⟨b, off, none⟩) l.length cap], .int .i64 k, .int .i64 x] w fun e w' => e = .returned (.int .i64 (charF l k x)) ∧ Below w.heap.size w w' := by
  by_cases h : elTwo l k x = true
  · have h2 := elTwo_iff h
    obtain ⟨m, K, X, hm, rfl, rfl, rfl, hK, hX⟩ := h2
    rw [charF_yes h]
    exact characterValue_yes _ _ _ _ _ _ _ hm hK hX hg
  · have hst := St.init cap 27 hg
    have hn : elTwo l k x = false := by simpa using h
    have hr := hid (charF_no hn)
    clear h
    rcases elTwo_no hn with h1 | ⟨h1, h2⟩
    all_goals
      go_enter Try.func73, Try.ntmps73
      go_wp2_with (first | (go_at_call 57; refine (has_any _ _ _ _ _ _ hl (St.grp (by assumption))).mono ?_; rintro e wN ⟨rfl, hbN⟩; have hstN := St.step (by assumption) hbN; have hboxN := hstN.box; clear hbN))
      go_ret
      exact ⟨ret_i (by rw [hr.out]), St.below (by assumption)⟩
/-- the elements before place k on which a character is trivial -/
def kerTo (m : List Nat) (K k : Nat) : List Nat := (List.range k).filter fun x => decide (charN m K x = 0)
theorem kerTo_yes {m : List Nat} {K k : Nat} (h : charN m K k = 0) : kerTo m K (k + 1) = kerTo m K k ++ [k] := by simp [kerTo, List.range_succ, h]
theorem kerTo_no {m : List Nat} {K k : Nat} (h : ¬ charN m K k = 0) : kerTo m K (k + 1) = kerTo m K k := by simp [kerTo, List.range_succ, h]
theorem kerTo_lt {m : List Nat} {K k : Nat} (hk : k ≤ 24) : ∀ i ∈ kerTo m K k, i < 24 := fun i hi => by
  simp only [kerTo, List.mem_filter, List.mem_range] at hi; omega
def kernN (m : List Nat) (K : Nat) : Nat := ofL (kerTo m K (prodN m))
theorem kernN_bd {m : List Nat} (hm : Ok m) (K : Nat) : kernN m K < 16777216 := ofL_bound (kerTo_lt hm.ord)
set_option maxHeartbeats 400000 in
theorem kernelOf_yes (b off cap : Nat) (m : List Nat) (K : Nat) (w : World) (hm : Ok m) (hK : K < prodN m) (hg : GrpAt w b off (cst m)) :
    Calls Try.prog 53 #[.agg #[.slice (some ⟨b, off, none⟩) (cst m).length cap], .int .i64 K] w fun e w' => e = .returned (.int .i64 (kernN m K : Nat)) ∧ Below w.heap.size w w' := by
  have hst := St.init cap 27 hg
  have hl : (cst m).length ≤ 1099511627776 := by rw [cst_length]; have := hm.len; omega
  have y1 : isEl (cst m) (K : Int) = true := isEl_iff.2 ⟨m, K, hm, rfl, rfl, hK⟩
  have hord := hm.ord
  go_enter Try.func53, Try.ntmps53
  go_wp2_with (first | (go_at_call 57; refine (has_any _ _ _ _ _ _ hl (St.grp (by assumption))).mono ?_; rintro e wN ⟨rfl, hbN⟩; have hstN := St.step (by assumption) hbN; have hboxN := hstN.box; clear hbN) | (go_at_call 52; refine (orderOf_yes _ _ _ _ _ hm (St.grp (by assumption))).mono ?_; rintro e wN ⟨rfl, hbN⟩; have hstN := St.step (by assumption) hbN; have hboxN := hstN.box; clear hbN))
  have hst2 : St w b off cap (cst m) wN := by assumption
  clear hst hboxN
  go_loopw [5, 13] (fun o i wr => ∃ k : Nat, i = .int .i64 k ∧ k ≤ prodN m ∧ o = .int .i64 (ofL (kerTo m K k) : Nat) ∧ St w b off cap (cst m) wr) (fun _ i _ => prodN m - (intOf i).toNat)
  case atStart => exact ⟨0, rfl, by omega, rfl, hst2⟩
  case round =>
    rename_i wr
    obtain ⟨k, rfl, hk, rfl, hstr⟩ := hrel
    have hboxr := hstr.box
    clear hst2
    by_cases hlt : k < prodN m
    · have hor := hid (ofL_or (kerTo_lt (m := m) (K := K) (k := k) (by omega)) (show k < 24 by omega))
      have hsh := shl1 (x := k) (by omega)
      have hpl := pw_le (x := k) (by omega)
      by_cases he : charN m K k = 0
      · have hs : Hid (kerTo m K (k + 1) = kerTo m K k ++ [k]) := kerTo_yes he
        have heb : (((charN m K k : Nat) : Int) == 0) = true := by rw [he]; simp
        clear he
        go_wp2_with (go_at_call 73; refine (characterValue_yes _ _ _ _ _ _ _ hm hK hlt hstr.grp).mono ?_; rintro e w3 ⟨rfl, hb3⟩; have hst3 := hstr.step hb3; clear hb3)
        go_roundw
        case rel => exact ⟨k + 1, by go_num, by omega, by rw [hs.out, ← hor.out], hst3⟩
        case measure => simp [intOf]; omega
      · have hs : Hid (kerTo m K (k + 1) = kerTo m K k) := kerTo_no he
        have heb : (((charN m K k : Nat) : Int) == 0) = false := by rw [beq_eq_false_iff_ne]; omega
        clear he
        go_wp2_with (go_at_call 73; refine (characterValue_yes _ _ _ _ _ _ _ hm hK hlt hstr.grp).mono ?_; rintro e w3 ⟨rfl, hb3⟩; have hst3 := hstr.step hb3; clear hb3)
        go_roundw
        case rel => exact ⟨k + 1, by go_num, by omega, by rw [hs.out], hst3⟩
        case measure => simp [intOf]; omega
    · have he : Hid (ofL (kerTo m K k) = kernN m K) := by unfold Hid; rw [show k = prodN m from by omega]; rfl
      go_wp2
      go_ret
      exact ⟨ret_i (by rw [he.out]), hstr.below⟩
set_option maxHeartbeats 400000 in
theorem sKernelOf_yes (b off cap : Nat) (m : List Nat) (K : Nat) (w : World) (hm : Ok m) (hK : K < prodN m) (hg : GrpAt w b off (cst m)) :
    Calls Try.prog 50 #[.agg #[.slice (some ⟨b, off, none⟩) (cst m).length cap], .int .i64 K] w fun e w' => e = .returned (.int .i64 (kernN m K : Nat)) ∧ Below w.heap.size w w' := by
  have hst := St.init cap 27 hg
  have hl : (cst m).length ≤ 1099511627776 := by rw [cst_length]; have := hm.len; omega
  have y1 : isEl (cst m) (K : Int) = true := isEl_iff.2 ⟨m, K, hm, rfl, rfl, hK⟩
  have hord := hm.ord
  go_enter Try.func50, Try.ntmps50
  go_wp2_with (first | (go_at_call 67; refine (l2Is_any _ _ _ _ _ _ hl (St.grp (by assumption))).mono ?_; rintro e wN ⟨rfl, hbN⟩; have hstN := St.step (by assumption) hbN; have hboxN := hstN.box; clear hbN))
  have hst2 : St w b off cap (cst m) wN := by assumption
  clear hst hboxN
  go_loopw [5, 6] (fun o i wr => ∃ k : Nat, i = .int .i64 k ∧ k ≤ prodN m ∧ o = .int .i64 (ofL (kerTo m K k) : Nat) ∧ St w b off cap (cst m) wr) (fun _ i _ => prodN m - (intOf i).toNat)
  case atStart => exact ⟨0, rfl, by omega, rfl, hst2⟩
  case round =>
    rename_i wr
    obtain ⟨k, rfl, hk, rfl, hstr⟩ := hrel
    have hboxr := hstr.box
    clear hst2
    go_wp2_with fail
    refine (l2Order_any _ _ _ _ _ hm hstr.grp).mono ?_; rintro e w2 ⟨rfl, hb2⟩; have hst2 := hstr.step hb2; have hbox2 := hst2.box
    clear hstr hb2 hboxr
    by_cases hlt : k < prodN m
    · have hor := hid (ofL_or (kerTo_lt (m := m) (K := K) (k := k) (by omega)) (show k < 24 by omega))
      have hsh := shl1 (x := k) (by omega)
      have hpl := pw_le (x := k) (by omega)
      by_cases he : charN m K k = 0
      · have hs : Hid (kerTo m K (k + 1) = kerTo m K k ++ [k]) := kerTo_yes he
        have heb : (((charN m K k : Nat) : Int) == 0) = true := by rw [he]; simp
        clear he
        go_wp2_with (go_at_call 70; refine (l7Value_any _ _ _ _ _ _ _ hm (by omega) (by omega) hst2.grp).mono ?_; rintro e w3 ⟨rfl, hb3⟩; have hst3 := hst2.step hb3; clear hb3)
        go_roundw
        case rel => exact ⟨k + 1, by go_num, by omega, by rw [hs.out, ← hor.out], hst3⟩
        case measure => simp [intOf]; omega
      · have hs : Hid (kerTo m K (k + 1) = kerTo m K k) := kerTo_no he
        have heb : (((charN m K k : Nat) : Int) == 0) = false := by rw [beq_eq_false_iff_ne]; omega
        clear he
        go_wp2_with (go_at_call 70; refine (l7Value_any _ _ _ _ _ _ _ hm (by omega) (by omega) hst2.grp).mono ?_; rintro e w3 ⟨rfl, hb3⟩; have hst3 := hst2.step hb3; clear hb3)
        go_roundw
        case rel => exact ⟨k + 1, by go_num, by omega, by rw [hs.out], hst3⟩
        case measure => simp [intOf]; omega
    · have he : Hid (ofL (kerTo m K k) = kernN m K) := by unfold Hid; rw [show k = prodN m from by omega]; rfl
      go_wp2
      go_ret
      exact ⟨ret_i (by rw [he.out]), hst2.below⟩
def kernF (l : List Int) (k : Int) : Int := if isEl l k = true then (kernN (toN l) k.toNat : Nat) else -1
theorem kernF_yes {m : List Nat} {K : Nat} (h : isEl (cst m) K = true) : kernF (cst m) K = (kernN m K : Nat) := by
  unfold kernF; rw [if_pos h, toN_cst, Int.toNat_natCast]
theorem kernF_no {l : List Int} {k : Int} (h : isEl l k = false) : kernF l k = -1 := by unfold kernF; rw [if_neg (by simp [h])]
theorem kernelOf_any (b off cap : Nat) (l : List Int) (k : Int) (w : World) (hl : l.length ≤ 1099511627776) (hg : GrpAt w b off l) :
    Calls Try.prog 53 #[.agg #[.slice (some ⟨b, off, none⟩) l.length cap], .int .i64 k] w fun e w' => e = .returned (.int .i64 (kernF l k)) ∧ Below w.heap.size w w' := by
  by_cases h : isEl l k = true
  · have h2 := isEl_iff.1 h
    obtain ⟨m, K, hm, rfl, rfl, hK⟩ := h2
    rw [kernF_yes h]
    exact kernelOf_yes _ _ _ _ _ _ hm hK hg
  · have hst := St.init cap 27 hg
    have hn : isEl l k = false := by simpa using h
    have hr := hid (kernF_no hn)
    clear h
    go_enter Try.func53, Try.ntmps53
    go_wp2_with (first | (go_at_call 57; refine (has_any _ _ _ _ _ _ hl (St.grp (by assumption))).mono ?_; rintro e wN ⟨rfl, hbN⟩; have hstN := St.step (by assumption) hbN; have hboxN := hstN.box; clear hbN))
    go_ret
    exact ⟨ret_i (by rw [hr.out]), St.below (by assumption)⟩
theorem sKernelOf_any (b off cap : Nat) (l : List Int) (k : Int) (w : World) (hl : l.length ≤ 1099511627776) (hg : GrpAt w b off l) :
    Calls Try.prog 50 #[.agg #[.slice (some ⟨b, off, none⟩) l.length cap], .int .i64 k] w fun e w' => e = .returned (.int .i64 (kernF l k)) ∧ Below w.heap.size w w' := by
  by_cases h : isEl l k = true
  · have h2 := isEl_iff.1 h
    obtain ⟨m, K, hm, rfl, rfl, hK⟩ := h2
    rw [kernF_yes h]
    exact sKernelOf_yes _ _ _ _ _ _ hm hK hg
  · have hst := St.init cap 27 hg
    have hn : isEl l k = false := by simpa using h
    have hr := hid (kernF_no hn)
    clear h
    go_enter Try.func50, Try.ntmps50
    go_wp2_with (first | (go_at_call 67; refine (l2Is_any _ _ _ _ _ _ hl (St.grp (by assumption))).mono ?_; rintro e wN ⟨rfl, hbN⟩; have hstN := St.step (by assumption) hbN; have hboxN := hstN.box; clear hbN))
    go_ret
    exact ⟨ret_i (by rw [hr.out]), St.below (by assumption)⟩
end Go.Proofs.Ytggjbicllnppkaa
