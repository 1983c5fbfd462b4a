/-
  Contracts: sizes of a set with more and more copies of another.
-/
import Derived.Test.YtpflnmcecnbilaaFull
import Derived.Test.YtpflnmcecnbilaaSum
import Derived.Test.YtpflnmcecnbilaaBits
namespace Go.Proofs.Ytpflnmcecnbilaa
open Go.RowKit

def iterN (m : List Nat) (X B : Nat) : Nat → Nat
  | 0 => X
  | k + 1 => sumN m (iterN m X B k) B
theorem iterN_lt {m : List Nat} (hm : Ok m) {X : Nat} (B : Nat) (hX : X < 16777216) (k : Nat) : iterN m X B k < 16777216 := by cases k with | zero => exact hX | succ k => exact sumN_lt hm _ _
def iterTo (m : List Nat) (X B k : Nat) : List Nat := (List.range k).map fun j => card (iterN m X B j)
theorem iterTo_succ (m : List Nat) (X B k : Nat) : iterTo m X B (k + 1) = iterTo m X B k ++ [card (iterN m X B k)] := by simp [iterTo, List.range_succ]
theorem iterTo_len (m : List Nat) (X B k : Nat) : (cst (iterTo m X B k)).length = k := by rw [cst_length]; simp [iterTo]
def itOk (l : List Int) (x b n : Int) : Bool := two l x b && inB n 0 20
theorem itOk_yes {l : List Int} {x b n : Int} (h : itOk l x b n = true) : two l x b = true ∧ isSetB l x = true ∧ isSetB l b = true ∧ inB n 0 20 = true := by
  simp only [itOk, Bool.and_eq_true] at h; exact ⟨h.1, (two_yes h.1).1, (two_yes h.1).2, h.2⟩
theorem itOk_no {l : List Int} {x b n : Int} (h : itOk l x b n = false) : two l x b = false ∨ (two l x b = true ∧ inB n 0 20 = false) := by
  cases h1 : two l x b <;> cases h2 : inB n 0 20 <;> simp_all [itOk]
theorem itOk_iff {l : List Int} {x b n : Int} (h : itOk l x b n = true) : ∃ m X B N, Ok m ∧ l = cst m ∧ x = ((X : Nat) : Int) ∧ b = ((B : Nat) : Int) ∧ n = ((N : Nat) : Int) ∧ X < 2 ^ prodN m ∧ B < 2 ^ prodN m ∧ N ≤ 20 := by
  simp only [itOk, Bool.and_eq_true] at h
  obtain ⟨m, X, B, hm, rfl, rfl, rfl, hX, hB⟩ := two_iff.1 h.1
  have h2 := h.2
  simp only [inB, Bool.and_eq_true, decide_eq_true_eq] at h2
  exact ⟨m, X, B, n.toNat, hm, rfl, rfl, rfl, by omega, hX, hB, by omega⟩
def iterF (l : List Int) (x b n : Int) : List Int := if itOk l x b n = true then cst (iterTo (toN l) x.toNat b.toNat (n.toNat + 1)) else []
theorem iterF_yes {m : List Nat} {X B N : Nat} (h : itOk (cst m) X B N = true) : iterF (cst m) X B N = cst (iterTo m X B (N + 1)) := by
  unfold iterF; rw [if_pos h, toN_cst, Int.toNat_natCast, Int.toNat_natCast, Int.toNat_natCast]
theorem iterF_no {l : List Int} {x b n : Int} (h : itOk l x b n = false) : iterF l x b n = [] := by unfold iterF; rw [if_neg (by simp [h])]
theorem iterF_len (l : List Int) (x b n : Int) : (iterF l x b n).length ≤ 1048576 := by
  by_cases h : itOk l x b n = true
  · obtain ⟨m, X, B, N, hm, rfl, rfl, rfl, rfl, hX, hB, hN⟩ := itOk_iff h
    rw [iterF_yes h, iterTo_len]; omega
  · rw [iterF_no (by simpa using h)]; simp
set_option maxHeartbeats 400000 in
theorem iteratedSizes_any (b off cap : Nat) (l : List Int) (x y n : Int) (w : World) (hl : l.length ≤ 1099511627776) (hg : GrpAt w b off l) :
    Calls Try.prog 20 #[.agg #[.slice (some ⟨b, off, none⟩) l.length cap], .int .i64 x, .int .i64 y, .int .i64 n] w (RetInts w (iterF l x y n)) := by
  obtain ⟨i0, hi, hz0, hz1, hz2⟩ := info_parts info_int
  have hst := (St.init cap 26 hg).step ((Below.refl _ _).alloc (Nat.le_refl _) (.cells #[] 3))
  have hgrw := GrowB.start (w := w) (w0 := w.alloc (.cells #[.slice (some ⟨b, off, none⟩) l.length cap] 26)) ((Below.refl _ _).alloc (Nat.le_refl _) _) (by simp) (w.heap.size + 1) (by simp)
  have hbw := hg.blt
  have hst1 := hst.step ((Below.refl _ _).alloc (Nat.le_refl _) (.cells #[.int .i64 x, .int .i64 y] 3))
  have hgr1 := hgrw.step ((Below.refl _ _).alloc (Nat.le_refl _) (.cells #[.int .i64 x, .int .i64 y] 3))
  have hg2 := GrpAt.two ((w.alloc (.cells #[.slice (some ⟨b, off, none⟩) l.length cap] 26)).alloc (.cells #[] 3)) x y 3 (w.heap.size + 1 + 1) (by simp)
  clear hst hgrw
  by_cases h : itOk l x y n = true
  · obtain ⟨y1, y2, y3, y4⟩ := itOk_yes h
    have h2 := itOk_iff h
    obtain ⟨m, X, B, N, hm, rfl, rfl, rfl, rfl, hX, hB, hN⟩ := h2
    have hr := hid (iterF_yes h)
    have hX' := Nat.lt_of_lt_of_le hX hm.pow_le
    have hB' := Nat.lt_of_lt_of_le hB hm.pow_le
    clear h
    go_enter Try.func20, Try.ntmps20
    go_wp2_with fail
    refine (areSets_two _ _ _ _ _ _ _ _ _ hl hst1.grp hg2).mono ?_; rintro e w1 ⟨rfl, hb1⟩; have hst2 := hst1.step hb1; have hgr2 := hgr1.step hb1
    clear hst1 hgr1 hg2 hb1
    go_wp2_with (first | (go_at_call 121; refine (within_any _ _ _ _).mono ?_; rintro e wN ⟨rfl, rfl⟩))
    go_loopw [1, 9, 10] (fun x o i wr => ∃ k S : Nat, i = .int .i64 k ∧ k ≤ N + 1 ∧ x = .int .i64 S ∧ S < 16777216 ∧ Hid (S = iterN m X B k) ∧ GrowB w (cst (iterTo m X B k)) o wr ∧ St w b off cap (cst m) wr) (fun _ _ i _ => N + 1 - (intOf i).toNat)
    case atStart => exact ⟨0, X, rfl, by omega, rfl, hX', rfl, hgr2, hst2⟩
    case round =>
      clear hgr2 hst2
      rename_i wr
      obtain ⟨k, S, rfl, hk, rfl, hS, hSe, hgr, hstr⟩ := hrel
      have hboxr := hstr.box
      by_cases hlt : k ≤ N
      · have hS' : Hid (sumN m S B = iterN m X B (k + 1)) := by unfold Hid; rw [hSe.out]; rfl
        have hyes : Hid (cst (iterTo m X B (k + 1)) = cst (iterTo m X B k) ++ [((card S : Nat) : Int)]) := by unfold Hid; rw [iterTo_succ, cst_snoc, hSe.out]
        have hlen : (cst (iterTo m X B k)).length ≤ 30 := by rw [iterTo_len]; omega
        have hM := sumN_lt hm S B
        go_wp2_with fail
        refine (bits_any _ _ hS).mono ?_; rintro e w3 ⟨rfl, rfl⟩
        have hown := hgr.own
        generalize card S = c at *
        generalize hG : iterTo m X B k = G at *
        go_wp2_with (at_builtin; refine wpList_append_own _ rfl _ _ 24 rfl (w.heap.size + 1) 3 i0 (.int .i64 0) 1 8 Try.underlying24 hi hz0 hz1 hz2 rfl (by decide) _ _ _ rfl (hown.alloc _) ⟨wr.heap.size, 0, none⟩ 1 1 [.int .i64 c] rfl rfl ?c1 ?c2 ?c3 ?c4 ?c5 ?_)
        case c1 => exact cell_one_new _ _ _
        case c2 => intro u hu; simp at hu; subst hu; rfl
        case c3 => simp only [maxLen]; omega
        case c4 => omega
        case c5 => have := hstr.size; simp; omega
        intro v' w4 hown' hgrow hnil
        have hp := hgr.push hown' hgrow hnil
        have hst4 := hstr.grown hbw hgrow hgr
        have hbox4 := hst4.box
        clear hown hown' hgrow hnil hstr hgr
        go_wp2_with fail
        refine (sum_any _ _ _ _ _ _ _ hm hS hB' hst4.grp).mono ?_; rintro e w5 ⟨rfl, hb5⟩; have hst5 := hid (hst4.step hb5); have hp5 := hid (hp.step hb5)
        generalize sumN m S B = S' at *
        clear hst4 hp hb5
        go_wp2
        go_roundw
        case rel => exact ⟨k + 1, S', by go_num, by omega, rfl, hM, hS', by rw [hyes.out]; exact hp5.out, hst5.out⟩
        case measure => simp [intOf]; omega
      · have hend : Hid (iterF (cst m) X B N = cst (iterTo m X B k)) := by unfold Hid; rw [hr.out, show k = N + 1 from by omega]
        go_wp2
        go_ret
        rw [hend.out]
        exact hgr.ret
  · have hn : itOk l x y n = false := by simpa using h
    have hr := hid (iterF_no hn)
    clear h
    rcases itOk_no hn with h1 | ⟨h1, h2⟩
    all_goals
      go_enter Try.func20, Try.ntmps20
      go_wp2_with fail
      refine (areSets_two _ _ _ _ _ _ _ _ _ hl hst1.grp hg2).mono ?_; rintro e w1 ⟨rfl, hb1⟩; have hst2 := hst1.step hb1; have hgr2 := hgr1.step hb1
      clear hst1 hgr1 hg2 hb1 hg
      go_wp2_with (first | (go_at_call 121; refine (within_any _ _ _ _).mono ?_; rintro e wN ⟨rfl, rfl⟩))
      go_ret
      rw [hr.out]
      exact hgr2.ret
set_option maxHeartbeats 400000 in
theorem sIteratedSizes_any (b off cap : Nat) (l : List Int) (x y n : Int) (w : World) (hl : l.length ≤ 1099511627776) (hg : GrpAt w b off l) :
    Calls Try.prog 30 #[.agg #[.slice (some ⟨b, off, none⟩) l.length cap], .int .i64 x, .int .i64 y, .int .i64 n] w (RetInts w (iterF l x y n)) := by
  obtain ⟨i0, hi, hz0, hz1, hz2⟩ := info_parts info_int
  have hst1 := (St.init cap 26 hg).step ((Below.refl _ _).alloc (Nat.le_refl _) (.cells #[] 3))
  have hgr1 := GrowB.start (w := w) (w0 := w.alloc (.cells #[.slice (some ⟨b, off, none⟩) l.length cap] 26)) ((Below.refl _ _).alloc (Nat.le_refl _) _) (by simp) (w.heap.size + 1) (by simp)
  have hbw := hg.blt
  have hbox1 := hst1.box
  by_cases h : itOk l x y n = true
  · obtain ⟨y1, y2, y3, y4⟩ := itOk_yes h
    have h2 := itOk_iff h
    obtain ⟨m, X, B, N, hm, rfl, rfl, rfl, rfl, hX, hB, hN⟩ := h2
    have hr := hid (iterF_yes h)
    have hX' := Nat.lt_of_lt_of_le hX hm.pow_le
    have hB' := Nat.lt_of_lt_of_le hB hm.pow_le
    clear h
    go_enter Try.func30, Try.ntmps30
    go_wp2_with fail
    refine (sIsSet_any _ _ _ _ _ _ hl hst1.grp).mono ?_; rintro e w1 ⟨rfl, hb1⟩; have hst2 := hst1.step hb1; have hgr2 := hgr1.step hb1; have hbox2 := hst2.box
    clear hst1 hgr1 hb1
    go_wp2_with fail
    refine (sIsSet_any _ _ _ _ _ _ hl hst2.grp).mono ?_; rintro e w2 ⟨rfl, hb1⟩; have hst3 := hst2.step hb1; have hgr3 := hgr2.step hb1; have hbox3 := hst3.box
    clear hst2 hgr2 hb1 hbox2
    go_wp2_with (first | (go_at_call 128; refine (l1In_any _ _ _ _).mono ?_; rintro e wN ⟨rfl, rfl⟩))
    go_loopw [1, 9, 10] (fun x o i wr => ∃ k S : Nat, i = .int .i64 k ∧ k ≤ N + 1 ∧ x = .int .i64 S ∧ S < 16777216 ∧ Hid (S = iterN m X B k) ∧ GrowB w (cst (iterTo m X B k)) o wr ∧ St w b off cap (cst m) wr) (fun _ _ i _ => N + 1 - (intOf i).toNat)
    case atStart => exact ⟨0, X, rfl, by omega, rfl, hX', rfl, hgr3, hst3⟩
    case round =>
      clear hgr3 hst3 hbox3
      rename_i wr
      obtain ⟨k, S, rfl, hk, rfl, hS, hSe, hgr, hstr⟩ := hrel
      have hboxr := hstr.box
      by_cases hlt : k ≤ N
      · have hS' : Hid (sumN m S B = iterN m X B (k + 1)) := by unfold Hid; rw [hSe.out]; rfl
        have hyes : Hid (cst (iterTo m X B (k + 1)) = cst (iterTo m X B k) ++ [((card S : Nat) : Int)]) := by unfold Hid; rw [iterTo_succ, cst_snoc, hSe.out]
        have hlen : (cst (iterTo m X B k)).length ≤ 30 := by rw [iterTo_len]; omega
        have hM := sumN_lt hm S B
        go_wp2_with fail
        refine (l3Bits_any _ _ hS).mono ?_; rintro e w3 ⟨rfl, rfl⟩
        have hown := hgr.own
        generalize card S = c at *
        generalize hG : iterTo m X B k = G at *
        go_wp2_with (at_builtin; refine wpList_append_own _ rfl _ _ 24 rfl (w.heap.size + 1) 3 i0 (.int .i64 0) 1 8 Try.underlying24 hi hz0 hz1 hz2 rfl (by decide) _ _ _ rfl (hown.alloc _) ⟨wr.heap.size, 0, none⟩ 1 1 [.int .i64 c] rfl rfl ?c1 ?c2 ?c3 ?c4 ?c5 ?_)
        case c1 => exact cell_one_new _ _ _
        case c2 => intro u hu; simp at hu; subst hu; rfl
        case c3 => simp only [maxLen]; omega
        case c4 => omega
        case c5 => have := hstr.size; simp; omega
        intro v' w4 hown' hgrow hnil
        have hp := hgr.push hown' hgrow hnil
        have hst4 := hstr.grown hbw hgrow hgr
        have hbox4 := hst4.box
        clear hown hown' hgrow hnil hstr hgr
        go_wp2_with fail
        refine (l4Sum_any _ _ _ _ _ _ _ hm hS hB' hst4.grp).mono ?_; rintro e w5 ⟨rfl, hb5⟩; have hst5 := hid (hst4.step hb5); have hp5 := hid (hp.step hb5)
        generalize sumN m S B = S' at *
        clear hst4 hp hb5
        go_wp2
        go_roundw
        case rel => exact ⟨k + 1, S', by go_num, by omega, rfl, hM, hS', by rw [hyes.out]; exact hp5.out, hst5.out⟩
        case measure => simp [intOf]; omega
      · have hend : Hid (iterF (cst m) X B N = cst (iterTo m X B k)) := by unfold Hid; rw [hr.out, show k = N + 1 from by omega]
        go_wp2
        go_ret
        rw [hend.out]
        exact hgr.ret
  · have hn : itOk l x y n = false := by simpa using h
    have hr := hid (iterF_no hn)
    clear h
    have hcase : (isSetB l x = false) ∨ (isSetB l x = true ∧ isSetB l y = false) ∨ (isSetB l x = true ∧ isSetB l y = true ∧ inB n 0 20 = false) := by
      rcases itOk_no hn with h1 | ⟨h1, h2⟩
      · rcases two_no h1 with h3 | h3
        · exact .inl h3
        · exact .inr (.inl h3)
      · exact .inr (.inr ⟨(two_yes h1).1, (two_yes h1).2, h2⟩)
    rcases hcase with h1 | ⟨h1, h2⟩ | ⟨h1, h2, h3⟩
    · go_enter Try.func30, Try.ntmps30
      go_wp2_with fail
      refine (sIsSet_any _ _ _ _ _ _ hl hst1.grp).mono ?_; rintro e w1 ⟨rfl, hb1⟩; have hgr2 := hgr1.step hb1
      go_wp2
      go_ret
      rw [hr.out]
      exact hgr2.ret
    all_goals
      go_enter Try.func30, Try.ntmps30
      go_wp2_with fail
      refine (sIsSet_any _ _ _ _ _ _ hl hst1.grp).mono ?_; rintro e w1 ⟨rfl, hb1⟩; have hst2 := hst1.step hb1; have hgr2 := hgr1.step hb1; have hbox2 := hst2.box
      clear hst1 hgr1 hb1
      go_wp2_with fail
      refine (sIsSet_any _ _ _ _ _ _ hl hst2.grp).mono ?_; rintro e w2 ⟨rfl, hb1⟩; have hgr3 := hgr2.step hb1
      go_wp2_with (first | (go_at_call 128; refine (l1In_any _ _ _ _).mono ?_; rintro e wN ⟨rfl, rfl⟩))
      go_ret
      rw [hr.out]
      exact hgr3.ret
end Go.Proofs.Ytpflnmcecnbilaa
