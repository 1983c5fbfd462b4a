/-
  Contracts: annihilators.
-/
import Derived.Test.YtggjbicllnppkaaKernel
namespace Go.Proofs.Ytggjbicllnppkaa
open Go.RowKit

/-- the characters before place k that are trivial on a set -/
def annTo (m : List Nat) (H k : Nat) : List Nat := (List.range k).filter fun x => decide (sdiff H (kernN m x) = 0)
theorem annTo_yes {m : List Nat} {H k : Nat} (h : sdiff H (kernN m k) = 0) : annTo m H (k + 1) = annTo m H k ++ [k] := by simp [annTo, List.range_succ, h]
theorem annTo_no {m : List Nat} {H k : Nat} (h : ¬ sdiff H (kernN m k) = 0) : annTo m H (k + 1) = annTo m H k := by simp [annTo, List.range_succ, h]
theorem annTo_lt {m : List Nat} {H k : Nat} (hk : k ≤ 24) : ∀ i ∈ annTo m H k, i < 24 := fun i hi => by
  simp only [annTo, List.mem_filter, List.mem_range] at hi; omega
theorem sdiff_zero {H N : Nat} : sdiff H N = 0 ↔ N &&& H = H := by
  constructor
  · intro h
    apply Nat.eq_of_testBit_eq; intro i
    have h1 : (sdiff H N).testBit i = false := by rw [h]; simp
    rw [testBit_sdiff] at h1
    rw [Nat.testBit_and]
    cases hH : H.testBit i <;> cases hN : N.testBit i <;> simp_all
  · intro h
    apply Nat.eq_of_testBit_eq; intro i
    have h1 : (N &&& H).testBit i = H.testBit i := by rw [h]
    rw [Nat.testBit_and] at h1
    rw [testBit_sdiff]
    cases hH : H.testBit i <;> cases hN : N.testBit i <;> simp_all
def annF (l : List Int) (h : Int) : Int := if isSetB l h = true then (ofL (annTo (toN l) h.toNat (prodN (toN l))) : Nat) else -1
theorem annF_yes {m : List Nat} {H : Nat} (hm : Ok m) (hH : H < 2 ^ prodN m) : annF (cst m) H = (ofL (annTo m H (prodN m)) : Nat) := by
  unfold annF; rw [if_pos (isSetB_nat hm hH), toN_cst, Int.toNat_natCast]
theorem annF_no {l : List Int} {h : Int} (hn : isSetB l h = false) : annF l h = -1 := by unfold annF; rw [if_neg (by simp [hn])]
set_option maxHeartbeats 400000 in
theorem annihilatorOf_any (b off cap : Nat) (l : List Int) (a : Int) (w : World) (hl : l.length ≤ 1099511627776) (hg : GrpAt w b off l) :
    Calls Try.prog 18 #[.agg #[.slice (some ⟨b, off, none⟩) l.length cap], .int .i64 a] w fun e w' => e = .returned (.int .i64 (annF l a)) ∧ Below w.heap.size w w' := by
  have hst := St.init cap 27 hg
  by_cases h : isSetB l a = true
  · have h3 := isSetB_iff.1 h
    obtain ⟨m, H, hm, rfl, rfl, hH⟩ := h3
    have hr := hid (annF_yes hm hH)
    have hH' := Nat.lt_of_lt_of_le hH hm.pow_le
    have hord := hm.ord
    go_enter Try.func18, Try.ntmps18
    go_wp2_with (first | (go_at_call 51; refine (isSet_any _ _ _ _ _ _ hl (St.grp (by assumption))).mono ?_; rintro e wN ⟨rfl, hbN⟩; have hstN := St.step (by assumption) hbN; have hboxN := hstN.box; clear hbN) | (go_at_call 52; refine (orderOf_yes _ _ _ _ _ hm (St.grp (by assumption))).mono ?_; rintro e wN ⟨rfl, hbN⟩; have hstN := St.step (by assumption) hbN; have hboxN := hstN.box; clear hbN))
    have hst2 : St w b off cap (cst m) wN := by assumption
    clear hst hboxN
    go_loopw [5, 13] (fun o i wr => ∃ k : Nat, i = .int .i64 k ∧ k ≤ prodN m ∧ o = .int .i64 (ofL (annTo m H k) : Nat) ∧ St w b off cap (cst m) wr) (fun _ i _ => prodN m - (intOf i).toNat)
    case atStart => exact ⟨0, rfl, by omega, rfl, hst2⟩
    case round =>
      rename_i wr
      obtain ⟨k, rfl, hk, rfl, hstr⟩ := hrel
      have hboxr := hstr.box
      clear hst2
      by_cases hlt : k < prodN m
      · have hor := hid (ofL_or (annTo_lt (m := m) (H := H) (k := k) (by omega)) (show k < 24 by omega))
        have hsh := shl1 (x := k) (by omega)
        have hpl := pw_le (x := k) (by omega)
        have hN := kernN_bd hm k
        by_cases he : sdiff H (kernN m k) = 0
        · have hs : Hid (annTo m H (k + 1) = annTo m H k ++ [k]) := annTo_yes he
          have heb : (bits BinOp.andNot IntKind.i64 (H : Int) ((kernN m k : Nat) : Int) == 0) = true := by rw [bits_andNot_nat _ _ (by omega) (by omega), he]; rfl
          clear he
          go_wp2_with (go_at_call 53; refine (kernelOf_yes _ _ _ _ _ _ hm hlt hstr.grp).mono ?_; rintro e w3 ⟨rfl, hb3⟩; have hst3 := hstr.step hb3; clear hb3)
          go_roundw
          case rel => exact ⟨k + 1, by go_num, by omega, by rw [hs.out, ← hor.out], hst3⟩
          case measure => simp [intOf]; omega
        · have hs : Hid (annTo m H (k + 1) = annTo m H k) := annTo_no he
          have heb : (bits BinOp.andNot IntKind.i64 (H : Int) ((kernN m k : Nat) : Int) == 0) = false := by rw [bits_andNot_nat _ _ (by omega) (by omega), beq_eq_false_iff_ne]; omega
          clear he
          go_wp2_with (go_at_call 53; refine (kernelOf_yes _ _ _ _ _ _ hm hlt hstr.grp).mono ?_; rintro e w3 ⟨rfl, hb3⟩; have hst3 := hstr.step hb3; clear hb3)
          go_roundw
          case rel => exact ⟨k + 1, by go_num, by omega, by rw [hs.out], hst3⟩
          case measure => simp [intOf]; omega
      · have he : Hid (ofL (annTo m H k) = ofL (annTo m H (prodN m))) := by unfold Hid; rw [show k = prodN m from by omega]
        go_wp2
        go_ret
        exact ⟨ret_i (by rw [hr.out, he.out]), hstr.below⟩
  · have hn : isSetB l a = false := by simpa using h
    have hr := hid (annF_no hn)
    clear h
    go_enter Try.func18, Try.ntmps18
    go_wp2_with (first | (go_at_call 51; refine (isSet_any _ _ _ _ _ _ hl (St.grp (by assumption))).mono ?_; rintro e wN ⟨rfl, hbN⟩; have hstN := St.step (by assumption) hbN; have hboxN := hstN.box; clear hbN))
    go_ret
    exact ⟨ret_i (by rw [hr.out]), St.below (by assumption)⟩
set_option maxHeartbeats 400000 in
theorem sAnnihilatorOf_any (b off cap : Nat) (l : List Int) (a : Int) (w : World) (hl : l.length ≤ 1099511627776) (hg : GrpAt w b off l) :
    Calls Try.prog 16 #[.agg #[.slice (some ⟨b, off, none⟩) l.length cap], .int .i64 a] w fun e w' => e = .returned (.int .i64 (annF l a)) ∧ Below w.heap.size w w' := by
  have hst := St.init cap 27 hg
  by_cases h : isSetB l a = true
  · have h3 := isSetB_iff.1 h
    obtain ⟨m, H, hm, rfl, rfl, hH⟩ := h3
    have hr := hid (annF_yes hm hH)
    have hH' := Nat.lt_of_lt_of_le hH hm.pow_le
    have hord := hm.ord
    go_enter Try.func16, Try.ntmps16
    go_wp2_with (first | (go_at_call 48; refine (sIsSet_any _ _ _ _ _ _ hl (St.grp (by assumption))).mono ?_; rintro e wN ⟨rfl, hbN⟩; have hstN := St.step (by assumption) hbN; have hboxN := hstN.box; clear hbN))
    have hst2 : St w b off cap (cst m) wN := by assumption
    clear hst hboxN
    go_loopw [5, 6] (fun o i wr => ∃ k : Nat, i = .int .i64 k ∧ k ≤ prodN m ∧ o = .int .i64 (ofL (annTo m H k) : Nat) ∧ St w b off cap (cst m) wr) (fun _ i _ => prodN m - (intOf i).toNat)
    case atStart => exact ⟨0, rfl, by omega, rfl, hst2⟩
    case round =>
      rename_i wr
      obtain ⟨k, rfl, hk, rfl, hstr⟩ := hrel
      have hboxr := hstr.box
      clear hst2
      go_wp2_with fail
      refine (l2Order_any _ _ _ _ _ hm hstr.grp).mono ?_; rintro e w2 ⟨rfl, hb2⟩; have hst2 := hstr.step hb2; have hbox2 := hst2.box
      clear hstr hb2 hboxr
      by_cases hlt : k < prodN m
      · have hor := hid (ofL_or (annTo_lt (m := m) (H := H) (k := k) (by omega)) (show k < 24 by omega))
        have hsh := shl1 (x := k) (by omega)
        have hpl := pw_le (x := k) (by omega)
        have hN := kernN_bd hm k
        by_cases he : sdiff H (kernN m k) = 0
        · have hs : Hid (annTo m H (k + 1) = annTo m H k ++ [k]) := annTo_yes he
          have heb : (bits BinOp.and IntKind.i64 ((kernN m k : Nat) : Int) (H : Int) == (H : Int)) = true := by rw [bits_and_nat _ _ (by omega) (by omega), sdiff_zero.1 he]; simp
          clear he
          go_wp2_with (go_at_call 50; refine (sKernelOf_yes _ _ _ _ _ _ hm hlt hst2.grp).mono ?_; rintro e w3 ⟨rfl, hb3⟩; have hst3 := hst2.step hb3; clear hb3)
          go_roundw
          case rel => exact ⟨k + 1, by go_num, by omega, by rw [hs.out, ← hor.out], hst3⟩
          case measure => simp [intOf]; omega
        · have hs : Hid (annTo m H (k + 1) = annTo m H k) := annTo_no he
          have heb : (bits BinOp.and IntKind.i64 ((kernN m k : Nat) : Int) (H : Int) == (H : Int)) = false := by rw [bits_and_nat _ _ (by omega) (by omega), beq_eq_false_iff_ne]; exact fun e => he (sdiff_zero.2 (by omega))
          clear he
          go_wp2_with (go_at_call 50; refine (sKernelOf_yes _ _ _ _ _ _ hm hlt hst2.grp).mono ?_; rintro e w3 ⟨rfl, hb3⟩; have hst3 := hst2.step hb3; clear hb3)
          go_roundw
          case rel => exact ⟨k + 1, by go_num, by omega, by rw [hs.out], hst3⟩
          case measure => simp [intOf]; omega
      · have he : Hid (ofL (annTo m H k) = ofL (annTo m H (prodN m))) := by unfold Hid; rw [show k = prodN m from by omega]
        go_wp2
        go_ret
        exact ⟨ret_i (by rw [hr.out, he.out]), hst2.below⟩
  · have hn : isSetB l a = false := by simpa using h
    have hr := hid (annF_no hn)
    clear h
    go_enter Try.func16, Try.ntmps16
    go_wp2_with (first | (go_at_call 48; refine (sIsSet_any _ _ _ _ _ _ hl (St.grp (by assumption))).mono ?_; rintro e wN ⟨rfl, hbN⟩; have hstN := St.step (by assumption) hbN; have hboxN := hstN.box; clear hbN))
    go_ret
    exact ⟨ret_i (by rw [hr.out]), St.below (by assumption)⟩
end Go.Proofs.Ytggjbicllnppkaa
