/-
  Contracts: characters' values of whatever numbers; kernels; annihilators.
-/
import Derived.Test.YtpflnmcecnbilaaChar
namespace Go.Proofs.Ytpflnmcecnbilaa
open Go.RowKit

def elTwo (l : List Int) (k x : Int) : Bool := isEl l k && isEl l x
theorem elTwo_yes {l : List Int} {k x : Int} (h : elTwo l k x = true) : isEl l k = true ∧ isEl l x = true := by simpa [elTwo] using h
theorem elTwo_no {l : List Int} {k x : Int} (h : elTwo l k x = false) : isEl l k = false ∨ (isEl l k = true ∧ isEl l x = false) := by
  cases h1 : isEl l k <;> cases h2 : isEl l x <;> simp_all [elTwo]
theorem elTwo_iff {l : List Int} {k x : Int} (h : elTwo l k x = true) : ∃ m K X, Ok m ∧ l = cst m ∧ k = ((K : Nat) : Int) ∧ x = ((X : Nat) : Int) ∧ K < prodN m ∧ X < prodN m := by
  obtain ⟨h1, h2⟩ := elTwo_yes h
  obtain ⟨m, K, hm, rfl, rfl, hK⟩ := isEl_iff.1 h1
  rw [isEl_yes hm] at h2
  simp only [Bool.and_eq_true, decide_eq_true_eq] at h2
  exact ⟨m, K, x.toNat, hm, rfl, rfl, by omega, hK, by omega⟩
def charF (l : List Int) (k x : Int) : Int := if elTwo l k x = true then (charN (toN l) k.toNat x.toNat : Nat) else -1
theorem charF_yes {m : List Nat} {K X : Nat} (h : elTwo (cst m) K X = true) : charF (cst m) K X = (charN m K X : Nat) := by
  unfold charF; rw [if_pos h, toN_cst, Int.toNat_natCast, Int.toNat_natCast]
theorem charF_no {l : List Int} {k x : Int} (h : elTwo l k x = false) : charF l k x = -1 := by unfold charF; rw [if_neg (by simp [h])]
set_option maxHeartbeats 400000 in
theorem characterValue_any (b off cap : Nat) (l : List Int) (k x : Int) (w : World) (hl : l.length ≤ 1099511627776) (hg : GrpAt w b off l) :
    Calls Try.prog 188 #[.agg #[.slice (some ⟨b, off, none⟩) l.length cap], .int .i64 k, .int .i64 x] w fun e w' => e = .returned (.int .i64 (charF l k x)) ∧ Below w.heap.size w w' := by
  by_cases h : elTwo l k x = true
  · have h2 := elTwo_iff h
    obtain ⟨m, K, X, hm, rfl, rfl, rfl, hK, hX⟩ := h2
    rw [charF_yes h]
    exact characterValue_yes _ _ _ _ _ _ _ hm hK hX hg
  · have hst := St.init cap 26 hg
    have hn : elTwo l k x = false := by simpa using h
    have hr := hid (charF_no hn)
    clear h
    rcases elTwo_no hn with h1 | ⟨h1, h2⟩
    all_goals
      go_enter Try.func188, Try.ntmps188
      go_wp2_with (first | (go_at_call 145; refine (has_any _ _ _ _ _ _ hl (St.grp (by assumption))).mono ?_; rintro e wN ⟨rfl, hbN⟩; have hstN := St.step (by assumption) hbN; have hboxN := hstN.box; clear hbN))
      go_ret
      exact ⟨ret_i (by rw [hr.out]), St.below (by assumption)⟩
/-- the elements before place k on which a character is trivial -/
def kerTo (m : List Nat) (K k : Nat) : List Nat := (List.range k).filter fun x => decide (charN m K x = 0)
theorem kerTo_yes {m : List Nat} {K k : Nat} (h : charN m K k = 0) : kerTo m K (k + 1) = kerTo m K k ++ [k] := by simp [kerTo, List.range_succ, h]
theorem kerTo_no {m : List Nat} {K k : Nat} (h : ¬ charN m K k = 0) : kerTo m K (k + 1) = kerTo m K k := by simp [kerTo, List.range_succ, h]
theorem kerTo_lt {m : List Nat} {K k : Nat} (hk : k ≤ 24) : ∀ i ∈ kerTo m K k, i < 24 := fun i hi => by
  simp only [kerTo, List.mem_filter, List.mem_range] at hi; omega
def kernN (m : List Nat) (K : Nat) : Nat := ofL (kerTo m K (prodN m))
theorem kernN_bd {m : List Nat} (hm : Ok m) (K : Nat) : kernN m K < 16777216 := ofL_bound (kerTo_lt hm.ord)
def kernF (l : List Int) (k : Int) : Int := if isEl l k = true then (kernN (toN l) k.toNat : Nat) else -1
theorem kernF_yes {m : List Nat} {K : Nat} (h : isEl (cst m) K = true) : kernF (cst m) K = (kernN m K : Nat) := by
  unfold kernF; rw [if_pos h, toN_cst, Int.toNat_natCast]
theorem kernF_no {l : List Int} {k : Int} (h : isEl l k = false) : kernF l k = -1 := by unfold kernF; rw [if_neg (by simp [h])]
end Go.Proofs.Ytpflnmcecnbilaa
