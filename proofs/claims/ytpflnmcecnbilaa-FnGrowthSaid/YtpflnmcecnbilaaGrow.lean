/-
  Contracts: growth of the sums of a set with itself.
-/
import Derived.Test.YtpflnmcecnbilaaMulti
namespace Go.Proofs.Ytpflnmcecnbilaa
open Go.RowKit

def growTo (m : List Nat) (A k : Nat) : List Nat := (List.range k).map fun j => card (multN m A (j + 1))
theorem growTo_succ (m : List Nat) (A k : Nat) : growTo m A (k + 1) = growTo m A k ++ [card (multN m A (k + 1))] := by simp [growTo, List.range_succ]
theorem growTo_len (m : List Nat) (A k : Nat) : (cst (growTo m A k)).length = k := by rw [cst_length]; simp [growTo]
def growF (l : List Int) (a n : Int) : List Int := if multOk l a n = true then cst (growTo (toN l) a.toNat n.toNat) else []
theorem growF_yes {m : List Nat} {A N : Nat} (h : multOk (cst m) A N = true) : growF (cst m) A N = cst (growTo m A N) := by
  unfold growF; rw [if_pos h, toN_cst, Int.toNat_natCast, Int.toNat_natCast]
theorem growF_no {l : List Int} {a n : Int} (h : multOk l a n = false) : growF l a n = [] := by unfold growF; rw [if_neg (by simp [h])]
set_option maxHeartbeats 400000 in
theorem growthOf_any (b off cap : Nat) (l : List Int) (a n : Int) (w : World) (hl : l.length ≤ 1099511627776) (hg : GrpAt w b off l) :
    Calls Try.prog 95 #[.agg #[.slice (some ⟨b, off, none⟩) l.length cap], .int .i64 a, .int .i64 n] w (RetInts w (growF l a n)) := by
  obtain ⟨i0, hi, hz0, hz1, hz2⟩ := info_parts info_int
  have hst := (St.init cap 26 hg).step ((Below.refl _ _).alloc (Nat.le_refl _) (.cells #[] 3))
  have hgrw := GrowB.start (w := w) (w0 := w.alloc (.cells #[.slice (some ⟨b, off, none⟩) l.length cap] 26)) ((Below.refl _ _).alloc (Nat.le_refl _) _) (by simp) (w.heap.size + 1) (by simp)
  have hbw := hg.blt
  by_cases h : multOk l a n = true
  · obtain ⟨y1, y2⟩ := multOk_yes h
    have h3 := multOk_iff.1 h
    obtain ⟨m, A, N, hm, rfl, rfl, rfl, hA, hN⟩ := h3
    have hr := hid (growF_yes h)
    clear h
    go_enter Try.func95, Try.ntmps95
    go_wp2_with fail
    refine (isSet_any _ _ _ _ _ _ hl hst.grp).mono ?_; rintro e w1 ⟨rfl, hb1⟩; have hst1 := hst.step hb1; have hgr1 := hgrw.step hb1
    clear hst hgrw hb1 hg
    go_wp2_with (first | (go_at_call 121; refine (within_any _ _ _ _).mono ?_; rintro e wN ⟨rfl, rfl⟩))
    go_loopw [7, 8] (fun o i wr => ∃ k : Nat, i = .int .i64 k ∧ 1 ≤ k ∧ k ≤ N + 1 ∧ GrowB w (cst (growTo m A (k - 1))) o wr ∧ St w b off cap (cst m) wr) (fun _ i _ => N + 1 - (intOf i).toNat)
    case atStart => exact ⟨1, rfl, by omega, by omega, hgr1, hst1⟩
    case round =>
      clear hgr1 hst1
      rename_i wr
      obtain ⟨k, rfl, hk1, hk, hgr, hstr⟩ := hrel
      have hboxr := hstr.box
      by_cases hlt : k ≤ N
      · have hyes : Hid (cst (growTo m A k) = cst (growTo m A (k - 1)) ++ [((card (multN m A k) : Nat) : Int)]) := by
          unfold Hid; have e : k = k - 1 + 1 := by omega
          rw [e, growTo_succ, cst_snoc]; simp
        have hlen : (cst (growTo m A (k - 1))).length ≤ 30 := by rw [growTo_len]; omega
        have hM := multN_bd hm A k
        go_wp2_with fail
        refine (multipleSum_yes _ _ _ _ _ _ _ hm hA (by omega) hstr.grp).mono ?_; rintro e w2 ⟨rfl, hb2⟩; have hst2 := hstr.step hb2; have hgr2 := hgr.step hb2
        clear hstr hgr hb2 hboxr
        go_wp2_with fail
        refine (bits_any _ _ hM).mono ?_; rintro e w3 ⟨rfl, rfl⟩
        have hown := hgr2.own
        generalize card (multN m A k) = c at *
        generalize growTo m A (k - 1) = G at *
        go_wp2_with (at_builtin; refine wpList_append_own _ rfl _ _ 24 rfl (w.heap.size + 1) 3 i0 (.int .i64 0) 1 8 Try.underlying24 hi hz0 hz1 hz2 rfl (by decide) _ _ _ rfl (hown.alloc _) ⟨w2.heap.size, 0, none⟩ 1 1 [.int .i64 c] rfl rfl ?c1 ?c2 ?c3 ?c4 ?c5 ?_)
        case c1 => exact cell_one_new _ _ _
        case c2 => intro u hu; simp at hu; subst hu; rfl
        case c3 => simp only [maxLen]; omega
        case c4 => omega
        case c5 => have := hst2.size; simp; omega
        intro v' w4 hown' hgrow hnil
        have hp := hid (hgr2.push hown' hgrow hnil)
        have hst4 := hid (hst2.grown hbw hgrow hgr2)
        clear hown hown' hgrow hnil hst2 hgr2
        go_wp2
        go_roundw
        case rel => exact ⟨k + 1, by go_num, by omega, by omega, by rw [show k + 1 - 1 = k from by omega, hyes.out]; exact hp, hst4.out⟩
        case measure => simp [intOf]; omega
      · have hend : Hid (growF (cst m) A N = cst (growTo m A (k - 1))) := by unfold Hid; rw [hr.out, show k - 1 = N from by omega]
        go_wp2
        go_ret
        rw [hend.out]
        exact hgr.ret
  · have hn : multOk l a n = false := by simpa using h
    have hr := hid (growF_no hn)
    clear h
    rcases multOk_no hn with h1 | ⟨h1, h2⟩
    all_goals
      go_enter Try.func95, Try.ntmps95
      go_wp2_with fail
      refine (isSet_any _ _ _ _ _ _ hl hst.grp).mono ?_; rintro e w1 ⟨rfl, hb1⟩; have hgr1 := hgrw.step hb1
      clear hst hgrw hb1 hg
      go_wp2_with (first | (go_at_call 121; refine (within_any _ _ _ _).mono ?_; rintro e wN ⟨rfl, rfl⟩))
      go_ret
      rw [hr.out]
      exact hgr1.ret
set_option maxHeartbeats 400000 in
theorem sGrowthOf_any (b off cap : Nat) (l : List Int) (a n : Int) (w : World) (hl : l.length ≤ 1099511627776) (hg : GrpAt w b off l) :
    Calls Try.prog 96 #[.agg #[.slice (some ⟨b, off, none⟩) l.length cap], .int .i64 a, .int .i64 n] w (RetInts w (growF l a n)) := by
  obtain ⟨i0, hi, hz0, hz1, hz2⟩ := info_parts info_int
  have hst := (St.init cap 26 hg).step ((Below.refl _ _).alloc (Nat.le_refl _) (.cells #[] 3))
  have hgrw := GrowB.start (w := w) (w0 := w.alloc (.cells #[.slice (some ⟨b, off, none⟩) l.length cap] 26)) ((Below.refl _ _).alloc (Nat.le_refl _) _) (by simp) (w.heap.size + 1) (by simp)
  have hbw := hg.blt
  by_cases h : multOk l a n = true
  · obtain ⟨y1, y2⟩ := multOk_yes h
    have h3 := multOk_iff.1 h
    obtain ⟨m, A, N, hm, rfl, rfl, rfl, hA, hN⟩ := h3
    have hr := hid (growF_yes h)
    have hA' := Nat.lt_of_lt_of_le hA hm.pow_le
    clear h hA
    go_enter Try.func96, Try.ntmps96
    go_wp2_with fail
    refine (sIsSet_any _ _ _ _ _ _ hl hst.grp).mono ?_; rintro e w1 ⟨rfl, hb1⟩; have hst1 := hst.step hb1; have hgr1 := hgrw.step hb1
    clear hst hgrw hb1 hg
    go_wp2_with (first | (go_at_call 128; refine (l1In_any _ _ _ _).mono ?_; rintro e wN ⟨rfl, rfl⟩))
    go_loopw [7, 8, 9] (fun o x i wr => ∃ k O : Nat, i = .int .i64 k ∧ k ≤ N ∧ x = .int .i64 O ∧ O < 16777216 ∧ Hid (O = multN m A k) ∧ GrowB w (cst (growTo m A k)) o wr ∧ St w b off cap (cst m) wr) (fun _ _ i _ => N - (intOf i).toNat)
    case atStart => exact ⟨0, 1, rfl, by omega, rfl, by omega, rfl, hgr1, hst1⟩
    case round =>
      clear hgr1 hst1
      rename_i wr
      obtain ⟨k, O, rfl, hk, rfl, hO, hOe, hgr, hstr⟩ := hrel
      have hboxr := hstr.box
      by_cases hlt : k < N
      · have hO' : Hid (sumN m O A = multN m A (k + 1)) := by unfold Hid; rw [hOe.out]; rfl
        have hyes : Hid (cst (growTo m A (k + 1)) = cst (growTo m A k) ++ [((card (sumN m O A) : Nat) : Int)]) := by unfold Hid; rw [growTo_succ, cst_snoc, hO'.out]
        have hlen : (cst (growTo m A k)).length ≤ 30 := by rw [growTo_len]; omega
        have hM := sumN_lt hm O A
        go_wp2_with fail
        refine (l4Sum_any _ _ _ _ _ _ _ hm hO hA' hstr.grp).mono ?_; rintro e w2 ⟨rfl, hb2⟩; have hst2 := hstr.step hb2; have hgr2 := hgr.step hb2
        clear hstr hgr hb2 hboxr
        go_wp2_with fail
        refine (l3Bits_any _ _ hM).mono ?_; rintro e w3 ⟨rfl, rfl⟩
        have hown := hgr2.own
        generalize card (sumN m O A) = c at *
        generalize sumN m O A = S at *
        generalize hG : growTo m A k = G at *
        go_wp2_with (at_builtin; refine wpList_append_own _ rfl _ _ 24 rfl (w.heap.size + 1) 3 i0 (.int .i64 0) 1 8 Try.underlying24 hi hz0 hz1 hz2 rfl (by decide) _ _ _ rfl (hown.alloc _) ⟨w2.heap.size, 0, none⟩ 1 1 [.int .i64 c] rfl rfl ?c1 ?c2 ?c3 ?c4 ?c5 ?_)
        case c1 => exact cell_one_new _ _ _
        case c2 => intro u hu; simp at hu; subst hu; rfl
        case c3 => simp only [maxLen]; omega
        case c4 => omega
        case c5 => have := hst2.size; simp; omega
        intro v' w4 hown' hgrow hnil
        have hp := hid (hgr2.push hown' hgrow hnil)
        have hst4 := hid (hst2.grown hbw hgrow hgr2)
        clear hown hown' hgrow hnil hst2 hgr2
        go_wp2
        go_roundw
        case rel => exact ⟨k + 1, S, by go_num, by omega, rfl, hM, hO', by rw [hyes.out]; exact hp, hst4.out⟩
        case measure => simp [intOf]; omega
      · have hend : Hid (growF (cst m) A N = cst (growTo m A k)) := by unfold Hid; rw [hr.out, show k = N from by omega]
        go_wp2
        go_ret
        rw [hend.out]
        exact hgr.ret
  · have hn : multOk l a n = false := by simpa using h
    have hr := hid (growF_no hn)
    clear h
    rcases multOk_no hn with h1 | ⟨h1, h2⟩
    all_goals
      go_enter Try.func96, Try.ntmps96
      go_wp2_with fail
      refine (sIsSet_any _ _ _ _ _ _ hl hst.grp).mono ?_; rintro e w1 ⟨rfl, hb1⟩; have hgr1 := hgrw.step hb1
      clear hst hgrw hb1 hg
      go_wp2_with (first | (go_at_call 128; refine (l1In_any _ _ _ _).mono ?_; rintro e wN ⟨rfl, rfl⟩))
      go_ret
      rw [hr.out]
      exact hgr1.ret
/-- the size of the sum of thirty copies -/
def stableF (l : List Int) (a : Int) : Int := if isSetB l a = true then (card (multN (toN l) a.toNat 30) : Nat) else -1
theorem stableF_yes {m : List Nat} {A : Nat} (hm : Ok m) (hA : A < 2 ^ prodN m) : stableF (cst m) A = (card (multN m A 30) : Nat) := by
  unfold stableF; rw [if_pos (isSetB_nat hm hA), toN_cst, Int.toNat_natCast]
theorem stableF_no {l : List Int} {a : Int} (h : isSetB l a = false) : stableF l a = -1 := by unfold stableF; rw [if_neg (by simp [h])]
set_option maxHeartbeats 400000 in
theorem stableSize_any (b off cap : Nat) (l : List Int) (a : Int) (w : World) (hl : l.length ≤ 1099511627776) (hg : GrpAt w b off l) :
    Calls Try.prog 109 #[.agg #[.slice (some ⟨b, off, none⟩) l.length cap], .int .i64 a] w fun e w' => e = .returned (.int .i64 (stableF l a)) ∧ Below w.heap.size w w' := by
  have hst := St.init cap 26 hg
  by_cases h : isSetB l a = true
  · have h3 := isSetB_iff.1 h
    obtain ⟨m, A, hm, rfl, rfl, hA⟩ := h3
    have hr := hid (stableF_yes hm hA)
    have hM := multN_bd hm A 30
    go_enter Try.func109, Try.ntmps109
    go_wp2_with (first | (go_at_call 132; refine (isSet_any _ _ _ _ _ _ hl (St.grp (by assumption))).mono ?_; rintro e wN ⟨rfl, hbN⟩; have hstN := St.step (by assumption) hbN; have hboxN := hstN.box; clear hbN))
    refine (multipleSum_yes _ _ _ _ _ 30 _ hm hA (by omega) (St.grp (by assumption))).mono ?_; rintro e w2 ⟨rfl, hb2⟩; have hst2 : St w b off cap (cst m) w2 := St.step (by assumption) hb2
    go_wp2_with fail
    refine (bits_any _ _ hM).mono ?_; rintro e w3 ⟨rfl, rfl⟩
    go_wp2
    go_ret
    exact ⟨ret_i (by rw [hr.out]), hst2.below⟩
  · have hn : isSetB l a = false := by simpa using h
    have hr := hid (stableF_no hn)
    clear h
    go_enter Try.func109, Try.ntmps109
    go_wp2_with (first | (go_at_call 132; refine (isSet_any _ _ _ _ _ _ hl (St.grp (by assumption))).mono ?_; rintro e wN ⟨rfl, hbN⟩; have hstN := St.step (by assumption) hbN; have hboxN := hstN.box; clear hbN))
    go_ret
    exact ⟨ret_i (by rw [hr.out]), St.below (by assumption)⟩
set_option maxHeartbeats 400000 in
theorem sStableSize_any (b off cap : Nat) (l : List Int) (a : Int) (w : World) (hl : l.length ≤ 1099511627776) (hg : GrpAt w b off l) :
    Calls Try.prog 110 #[.agg #[.slice (some ⟨b, off, none⟩) l.length cap], .int .i64 a] w fun e w' => e = .returned (.int .i64 (stableF l a)) ∧ Below w.heap.size w w' := by
  have hst := St.init cap 26 hg
  go_enter Try.func110, Try.ntmps110
  go_wp2_with fail
  refine (sGrowthOf_any _ _ _ _ _ 30 _ hl hst.grp).mono ?_; rintro e w1 ⟨g, gc, rfl, hmade⟩
  have hst1 := hst.step hmade.below
  by_cases h : isSetB l a = true
  · have h3 := isSetB_iff.1 h
    obtain ⟨m, A, hm, rfl, rfl, hA⟩ := h3
    have hr := hid (stableF_yes hm hA)
    have e1 : growF (cst m) (A : Int) 30 = cst (growTo m A 30) := growF_yes (N := 30) (multOk_iff.2 ⟨m, A, 30, hm, rfl, rfl, rfl, hA, by omega⟩)
    rw [e1] at hmade ⊢
    have hlen := growTo_len m A 30
    have hc := hmade.grp.nat0 29 (by rw [hlen]; omega)
    have hv : (growTo m A 30).getD 29 0 = card (multN m A 30) := by simp [growTo, List.getD_eq_getElem?_getD]
    rw [hv] at hc
    rw [hlen]
    clear hmade hlen hv e1
    go_wp2
    go_ret
    exact ⟨ret_i (by rw [hr.out]), hst1.below⟩
  · have hn : isSetB l a = false := by simpa using h
    have hr := hid (stableF_no hn)
    rw [growF_no (show multOk l a 30 = false by simp [multOk, hn])] at hmade ⊢
    clear h
    go_wp2
    go_ret
    exact ⟨ret_i (by rw [hr.out]), hst1.below⟩
end Go.Proofs.Ytpflnmcecnbilaa
