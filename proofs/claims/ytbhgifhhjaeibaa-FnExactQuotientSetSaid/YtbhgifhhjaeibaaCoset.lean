/-
  Contracts: the cosets of a subgroup.
-/
import Derived.Test.YtbhgifhhjaeibaaGen
import Derived.Test.YtbhgifhhjaeibaaPrime
import Derived.Test.YtbhgifhhjaeibaaShift
import Derived.Deep.RegionHeld3
namespace Go.Proofs.Ytbhgifhhjaeibaa
open Go.RowKit

def cosP (m : List Nat) (H : Nat) : Nat → List Nat × Nat
  | 0 => ([], 0)
  | k + 1 => if (cosP m H k).2.testBit k = true then cosP m H k else ((cosP m H k).1 ++ [shiftN m H k], (cosP m H k).2 ||| shiftN m H k)
theorem cosP_yes {m : List Nat} {H k : Nat} (h : (cosP m H k).2.testBit k = true) : cosP m H (k + 1) = cosP m H k := by rw [cosP, if_pos h]
theorem cosP_no {m : List Nat} {H k : Nat} (h : (cosP m H k).2.testBit k = false) : cosP m H (k + 1) = ((cosP m H k).1 ++ [shiftN m H k], (cosP m H k).2 ||| shiftN m H k) := by rw [cosP, if_neg (by simp [h])]
theorem cosP_len (m : List Nat) (H : Nat) : ∀ k, (cosP m H k).1.length ≤ k
  | 0 => by simp [cosP]
  | k + 1 => by
    have ih := cosP_len m H k
    rw [cosP]; split
    · omega
    · simp; omega
theorem cosP_lt {m : List Nat} (hm : Ok m) (H : Nat) : ∀ k, (cosP m H k).2 < 16777216 ∧ ∀ c ∈ (cosP m H k).1, c < 16777216
  | 0 => ⟨by simp [cosP], by simp [cosP]⟩
  | k + 1 => by
    have ih := cosP_lt hm H k
    rw [cosP]; split
    · exact ih
    · refine ⟨or_lt24 ih.1 (shiftN_lt hm H k), fun c hc => ?_⟩
      rcases List.mem_append.1 hc with h | h
      · exact ih.2 c h
      · simp at h; rw [h]; exact shiftN_lt hm H k
def cosN (m : List Nat) (H : Nat) : List Nat := (cosP m H (prodN m)).1
def cosF (l : List Int) (h : Int) : List Int := if subB l h = true then cst (cosN (toN l) h.toNat) else []
theorem cosF_yes {m : List Nat} {H : Nat} (h : subB (cst m) H = true) : cosF (cst m) H = cst (cosN m H) := by unfold cosF; rw [if_pos h, toN_cst, Int.toNat_natCast]
theorem cosF_no {l : List Int} {h : Int} (e : subB l h = false) : cosF l h = [] := by unfold cosF; rw [if_neg (by simp [e])]
theorem subB_set {l : List Int} {h : Int} (e : subB l h = true) : isSetB l h = true := by unfold subB at e; rw [Bool.and_eq_true] at e; exact e.1
/-- the function returns a slice of these integers, in new memory, and a bool -/
def RetIB (w : World) (l : List Int) (bv : Bool) (e : Ending) (w' : World) : Prop := ∃ g cap, e = .returned (.tuple #[.slice (some ⟨g, 0, none⟩) l.length cap, .bool bv]) ∧ Made w l g cap w'
theorem GrowB.form {w wr : World} {l : List Int} {v : Value} (h : GrowB w l v wr) : ∃ g cap, v = .slice (some ⟨g, 0, none⟩) l.length cap ∧ Made w l g cap wr := by
  obtain ⟨g, cap, e, hm⟩ := h.ret
  exact ⟨g, cap, by injection e, hm⟩
theorem GrowB.retB {w wr : World} {l : List Int} {v : Value} (h : GrowB w l v wr) (bv : Bool) : RetIB w l bv (.returned (.tuple #[v, .bool bv])) wr := by
  obtain ⟨g, cap, rfl, hm⟩ := h.form
  exact ⟨g, cap, rfl, hm⟩
theorem shrC_test0 {A : Nat} (k : Nat) (hA : A < 16777216) : (bits BinOp.and IntKind.i64 ((A : Int) / 2 ^ k) 1 == 0) = !A.testBit k := by
  have h1 : A / 2 ^ k ≤ A := Nat.div_le_self _ _
  have e : ((A : Int) / 2 ^ k) = ((A / 2 ^ k : Nat) : Int) := by simp
  rw [e, show (1 : Int) = ((1 : Nat) : Int) from rfl, bits_and_nat _ _ (by omega) (by omega), Nat.testBit_eq_decide_div_mod_eq]
  rw [Nat.and_one_is_mod, Bool.eq_iff_iff]; simp; omega
set_option maxHeartbeats 1000000 in
theorem cosetsOf_any (b off cap : Nat) (l : List Int) (h : Int) (w : World) (hl : l.length ≤ 1099511627776) (hg : GrpAt w b off l) :
    Calls Try.prog 124 #[.agg #[.slice (some ⟨b, off, none⟩) l.length cap], .int .i64 h] w (RetIB w (cosF l h) (subB l h)) := by
  obtain ⟨i0, hi, hz0, hz1, hz2⟩ := info_parts info_int
  have hst := (St.init cap 27 hg).step ((Below.refl _ _).alloc (Nat.le_refl _) (.cells #[] 3))
  have hgrw := GrowB.start (w := w) (w0 := w.alloc (.cells #[.slice (some ⟨b, off, none⟩) l.length cap] 27)) ((Below.refl _ _).alloc (Nat.le_refl _) _) (by simp) (w.heap.size + 1) (by simp)
  have hbw := hg.blt
  clear hg
  by_cases hs : subB l h = true
  · have h3 := isSetB_iff.1 (subB_set hs)
    obtain ⟨m, H, hm, rfl, rfl, hH⟩ := h3
    have hr := hid (cosF_yes hs)
    have hk := hid hs
    have hord := hm.ord
    have hH' := Nat.lt_of_lt_of_le hH hm.pow_le
    have hlt0 : Hid (∀ k, (cosP m H k).2 < 16777216) := fun k => (cosP_lt hm H k).1
    have hle0 : Hid (∀ k, (cosP m H k).1.length ≤ k) := cosP_len m H
    clear hH
    go_enter Try.func124, Try.ntmps124
    go_wp2_with fail
    refine (isSubgroup_any _ _ _ _ _ _ hl hst.grp).mono ?_; rintro e w1 ⟨rfl, hb1⟩; rw [hs]; have hst1 := hst.step hb1; have hgr1 := hgrw.step hb1; have hbox1 := hst1.box
    clear hst hgrw hb1 hs
    go_wp2_with fail
    refine (orderOf_yes _ _ _ _ _ hm hst1.grp).mono ?_; rintro e w2 ⟨rfl, hb2⟩; have hst2 := hst1.step hb2; have hgr2 := hgr1.step hb2
    clear hst1 hgr1 hb2 hbox1
    go_wp2
    go_loopw [6, 7, 18] (fun o s i wr => ∃ k S : Nat, i = .int .i64 k ∧ k ≤ prodN m ∧ s = .int .i64 S ∧ Hid (S = (cosP m H k).2) ∧ GrowB w (cst (cosP m H k).1) o wr ∧ St w b off cap (cst m) wr) (fun _ _ i _ => prodN m - (intOf i).toNat)
    case atStart => exact ⟨0, 0, rfl, by omega, rfl, rfl, hgr2, hst2⟩
    case round =>
      clear hgr2 hst2
      rename_i wr
      obtain ⟨k, S, rfl, hk1, rfl, hS, hgr, hstr⟩ := hrel
      have hbox := hstr.box
      have hS' : S < 16777216 := by rw [hS.out]; exact hlt0.out k
      by_cases hlt : k < prodN m
      · by_cases ht : S.testBit k = true
        · have hnx : Hid (cosP m H (k + 1) = cosP m H k) := cosP_yes (by rw [← hS.out]; exact ht)
          go_wp2_with fail
          refine (in_any S k _ hS' (by omega)).mono ?_; rintro e w3 ⟨rfl, rfl⟩; rw [ht]
          go_wp2
          go_roundw
          case rel => exact ⟨k + 1, S, by go_num, by omega, rfl, by rw [hnx.out]; exact hS, by rw [hnx.out]; exact hgr, hstr⟩
          case measure => simp [intOf]; omega
        · have hf : S.testBit k = false := by simpa using ht
          have hnx : Hid (cosP m H (k + 1) = ((cosP m H k).1 ++ [shiftN m H k], (cosP m H k).2 ||| shiftN m H k)) := cosP_no (by rw [← hS.out]; exact hf)
          have hC := shiftN_lt hm H k
          have hor := bits_or_nat S (shiftN m H k) (by omega) (by omega)
          have hn2 : Hid (S ||| shiftN m H k = (cosP m H (k + 1)).2) := by unfold Hid; rw [hnx.out, hS.out]
          have hn1 : Hid (cst (cosP m H (k + 1)).1 = cst (cosP m H k).1 ++ [((shiftN m H k : Nat) : Int)]) := by unfold Hid; rw [hnx.out, cst_snoc]
          have hlen : (cst (cosP m H k).1).length ≤ 24 := by rw [cst_length]; have := hle0.out k; omega
          clear ht
          go_wp2_with fail
          refine (in_any S k _ hS' (by omega)).mono ?_; rintro e w3 ⟨rfl, rfl⟩; rw [hf]
          go_wp2_with fail
          refine (shift_any _ _ _ _ _ _ _ hm hH' (by omega) hstr.grp).mono ?_; rintro e w4 ⟨rfl, hb4⟩; have hst4 := hstr.step hb4; have hgr4 := hgr.step hb4
          clear hstr hgr hb4 hbox
          have hown := hgr4.own
          generalize shiftN m H k = C at *
          generalize (cosP m H k).1 = G at *
          go_wp2_with (at_builtin; refine wpList_append_own _ rfl _ _ 22 rfl (w.heap.size + 1) 3 i0 (.int .i64 0) 1 8 Try.underlying22 hi hz0 hz1 hz2 rfl (by decide) _ _ _ rfl (hown.alloc _) ⟨w4.heap.size, 0, none⟩ 1 1 [.int .i64 C] rfl rfl ?c1 ?c2 ?c3 ?c4 ?c5 ?_)
          case c1 => exact cell_one_new _ _ _
          case c2 => intro u hu; simp at hu; subst hu; rfl
          case c3 => simp only [maxLen]; omega
          case c4 => omega
          case c5 => have := hst4.size; simp; omega
          intro v' w5 hown' hgrow hnil
          have hp := hid (hgr4.push hown' hgrow hnil)
          have hst5 := hid (hst4.grown hbw hgrow hgr4)
          clear hown hown' hgrow hnil hst4 hgr4
          go_wp2
          go_roundw
          case rel => exact ⟨k + 1, _, by go_num, by omega, rfl, hn2, by rw [hn1.out]; exact hp.out, hst5.out⟩
          case measure => simp [intOf]; omega
      · have hend : Hid (cst (cosP m H k).1 = cosF (cst m) H) := by unfold Hid; rw [hr.out, show k = prodN m from by omega]; rfl
        rw [hend.out] at hgr
        go_wp2
        go_ret2
        rw [hk.out]
        exact hgr.retB true
  · have hs' : subB l h = false := by simpa using hs
    have hr := hid (cosF_no hs')
    have hk := hid hs'
    clear hs
    go_enter Try.func124, Try.ntmps124
    go_wp2_with fail
    refine (isSubgroup_any _ _ _ _ _ _ hl hst.grp).mono ?_; rintro e w1 ⟨rfl, hb1⟩; rw [hs']; have hst1 := hst.step hb1; have hgr1 := hgrw.step hb1
    go_wp2
    go_ret2
    rw [hr.out, hk.out]
    exact hgr1.retB false
set_option maxHeartbeats 1000000 in
theorem sCosetsOf_any (b off cap : Nat) (l : List Int) (h : Int) (w : World) (hl : l.length ≤ 1099511627776) (hg : GrpAt w b off l) :
    Calls Try.prog 122 #[.agg #[.slice (some ⟨b, off, none⟩) l.length cap], .int .i64 h] w (RetIB w (cosF l h) (subB l h)) := by
  obtain ⟨i0, hi, hz0, hz1, hz2⟩ := info_parts info_int
  have hst := (St.init cap 27 hg).step ((Below.refl _ _).alloc (Nat.le_refl _) (.cells #[] 3))
  have hgrw := GrowB.start (w := w) (w0 := w.alloc (.cells #[.slice (some ⟨b, off, none⟩) l.length cap] 27)) ((Below.refl _ _).alloc (Nat.le_refl _) _) (by simp) (w.heap.size + 1) (by simp)
  have hbw := hg.blt
  clear hg
  by_cases hs : subB l h = true
  · have h3 := isSetB_iff.1 (subB_set hs)
    obtain ⟨m, H, hm, rfl, rfl, hH⟩ := h3
    have hr := hid (cosF_yes hs)
    have hk := hid hs
    have hord := hm.ord
    have hH' := Nat.lt_of_lt_of_le hH hm.pow_le
    have hlt0 : Hid (∀ k, (cosP m H k).2 < 16777216) := fun k => (cosP_lt hm H k).1
    have hle0 : Hid (∀ k, (cosP m H k).1.length ≤ k) := cosP_len m H
    clear hH
    go_enter Try.func122, Try.ntmps122
    go_wp2_with fail
    refine (sIsSubgroup_any _ _ _ _ _ _ hl hst.grp).mono ?_; rintro e w1 ⟨rfl, hb1⟩; rw [hs]; have hst1 := hst.step hb1; have hgr1 := hgrw.step hb1
    clear hst hgrw hb1 hs
    go_wp2
    go_loopw [6, 7, 8] (fun o s i wr => ∃ k S : Nat, i = .int .i64 k ∧ k ≤ prodN m ∧ s = .int .i64 S ∧ Hid (S = (cosP m H k).2) ∧ GrowB w (cst (cosP m H k).1) o wr ∧ St w b off cap (cst m) wr) (fun _ _ i _ => prodN m - (intOf i).toNat)
    case atStart => exact ⟨0, 0, rfl, by omega, rfl, rfl, hgr1, hst1⟩
    case round =>
      clear hgr1 hst1
      rename_i wr
      obtain ⟨k, S, rfl, hk1, rfl, hS, hgr, hstr⟩ := hrel
      have hbox := hstr.box
      have hS' : S < 16777216 := by rw [hS.out]; exact hlt0.out k
      have htb := shrC_test0 k hS'
      go_wp2_with fail
      refine (l2Order_any _ _ _ _ _ hm hstr.grp).mono ?_; rintro e w2 ⟨rfl, hb2⟩; have hst2 := hstr.step hb2; have hgr2 := hgr.step hb2; have hbox2 := hst2.box
      clear hstr hgr hb2 hbox
      by_cases hlt : k < prodN m
      · by_cases ht : S.testBit k = true
        · have hnx : Hid (cosP m H (k + 1) = cosP m H k) := cosP_yes (by rw [← hS.out]; exact ht)
          rw [ht] at htb
          go_wp2
          go_roundw
          case rel => exact ⟨k + 1, S, by go_num, by omega, rfl, by rw [hnx.out]; exact hS, by rw [hnx.out]; exact hgr2, hst2⟩
          case measure => simp [intOf]; omega
        · have hf : S.testBit k = false := by simpa using ht
          have hnx : Hid (cosP m H (k + 1) = ((cosP m H k).1 ++ [shiftN m H k], (cosP m H k).2 ||| shiftN m H k)) := cosP_no (by rw [← hS.out]; exact hf)
          have hC := shiftN_lt hm H k
          have hor := bits_or_nat S (shiftN m H k) (by omega) (by omega)
          have hn2 : Hid (S ||| shiftN m H k = (cosP m H (k + 1)).2) := by unfold Hid; rw [hnx.out, hS.out]
          have hn1 : Hid (cst (cosP m H (k + 1)).1 = cst (cosP m H k).1 ++ [((shiftN m H k : Nat) : Int)]) := by unfold Hid; rw [hnx.out, cst_snoc]
          have hlen : (cst (cosP m H k).1).length ≤ 24 := by rw [cst_length]; have := hle0.out k; omega
          rw [hf] at htb
          clear ht
          go_wp2_with fail
          refine (l3Shift_any _ _ _ _ _ _ _ hm hH' (by omega) hst2.grp).mono ?_; rintro e w4 ⟨rfl, hb4⟩; have hst4 := hst2.step hb4; have hgr4 := hgr2.step hb4
          clear hst2 hgr2 hb4 hbox2
          have hown := hgr4.own
          generalize shiftN m H k = C at *
          generalize (cosP m H k).1 = G at *
          go_wp2_with (at_builtin; refine wpList_append_own _ rfl _ _ 22 rfl (w.heap.size + 1) 3 i0 (.int .i64 0) 1 8 Try.underlying22 hi hz0 hz1 hz2 rfl (by decide) _ _ _ rfl (hown.alloc _) ⟨w4.heap.size, 0, none⟩ 1 1 [.int .i64 C] rfl rfl ?c1 ?c2 ?c3 ?c4 ?c5 ?_)
          case c1 => exact cell_one_new _ _ _
          case c2 => intro u hu; simp at hu; subst hu; rfl
          case c3 => simp only [maxLen]; omega
          case c4 => omega
          case c5 => have := hst4.size; simp; omega
          intro v' w5 hown' hgrow hnil
          have hp := hid (hgr4.push hown' hgrow hnil)
          have hst5 := hid (hst4.grown hbw hgrow hgr4)
          clear hown hown' hgrow hnil hst4 hgr4
          go_wp2
          go_roundw
          case rel => exact ⟨k + 1, _, by go_num, by omega, rfl, hn2, by rw [hn1.out]; exact hp.out, hst5.out⟩
          case measure => simp [intOf]; omega
      · have hend : Hid (cst (cosP m H k).1 = cosF (cst m) H) := by unfold Hid; rw [hr.out, show k = prodN m from by omega]; rfl
        rw [hend.out] at hgr2
        go_wp2
        go_ret2
        rw [hk.out]
        exact hgr2.retB true
  · have hs' : subB l h = false := by simpa using hs
    have hr := hid (cosF_no hs')
    have hk := hid hs'
    clear hs
    go_enter Try.func122, Try.ntmps122
    go_wp2_with fail
    refine (sIsSubgroup_any _ _ _ _ _ _ hl hst.grp).mono ?_; rintro e w1 ⟨rfl, hb1⟩; rw [hs']; have hst1 := hst.step hb1; have hgr1 := hgrw.step hb1
    go_wp2
    go_ret2
    rw [hr.out, hk.out]
    exact hgr1.retB false
end Go.Proofs.Ytbhgifhhjaeibaa
